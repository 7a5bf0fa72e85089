/- Laws that the proof uses. -/
import Derived.Test.YtodfajmihkagnaaGreatDoorAm9
import Derived.Test.YtodfajmihkagnaaGreatDoorShelf
import Derived.ProofKit
import Derived.Shelf.SortM.Plain
import Derived.Shelf.SortM.SortNone
import Derived.Shelf.Strconv.Itoa0
import Derived.Shelf.Strconv.Itoa2
import Derived.Shelf.Strconv.AtoiAll
import Derived.Test.YtodfajmihkagnaaGreatDoorAm14
import Derived.Test.YtodfajmihkagnaaGreatDoorProg
import Derived.Test.YtodfajmihkagnaaGreatDoorRows
import Derived.KernelRfl
set_option maxRecDepth 100000
set_option linter.unusedVariables false
set_option linter.unusedSimpArgs false
namespace Go.Proofs.YtodfajmihkagnaaGreatDoor.UE
open Go Go.Proofs Go.RowKit Go.Shelf
theorem adr:Am.xn Tryz.prog 91 Am.Fs:=by
 refine Am.aeB (fun aR w=>Am.vq (by unfold Am.od;kernel_rfl) Tryz.func91 rfl aR w) ?_
 intro s c w hs hc ha
 exact Any.strings_Trim_laid Tryz.lays160 (by kernel_rfl) s c w hs hc ha
end Go.Proofs.YtodfajmihkagnaaGreatDoor.UE
namespace Go.Proofs.YtodfajmihkagnaaGreatDoor.hJ
open Go Am Go.Sort Go.RowKit Go.Proofs
def KJ:AV->Option Int
 | .int .i64 z=>some z
 | _=>none
def yy:List AV->Option (List Int)
 | []=>some []
 | v::r=>match KJ v,yy r with
  | some z,some l=>some (z::l)
  | _,_=>none
def rr (l:List Int):List AV:=l.map (AV.int .i64)
def pD (l:List Int):List Int:=l.mergeSort fun x y=>decide (x<=y)
theorem alu {v:AV}{z:Int}(h:KJ v=some z):v = .int .i64 z:=by
 unfold KJ at h
 split at h
 ·cases h;rfl
 ·cases h
theorem abm:∀ {l:List AV} {zs:List Int},yy l=some zs->l=rr zs
 | [],zs,h=>by cases h;rfl
 | v::r,zs,h=>by
  unfold yy at h
  split at h
  ·rename_i z l h1 h2
   cases h
   rw[alu h1,abm h2]
   rfl
  ·cases h
theorem ZD:∀ (zs:List Int),yy (rr zs)=some zs
 | []=>rfl
 | z::zs=>by
  show (match KJ (AV.int .i64 z),yy (rr zs) with | some z,some l=>some (z::l) | _,_=>none)=_
  rw[ZD zs]
  rfl
theorem abI (l:List Int):(pD l).length=l.length:=(List.mergeSort_perm l _).length_eq
noncomputable section
def aiL (H:Hp)(i off:Nat)(c:Tr AV)(lo hi el fl:Nat)(r:Option (List Int)):Option (AV × Hp):=match r with
 | some zs=>some (.tuple [],{ H with h:=H.h.bP i (.cells (c.bY off (rr (pD zs))) lo hi el fl) })
 | none=>none
open Classical in
def Pu (H:Hp)(i off n:Nat)(o:AO):Option (AV × Hp):=match o with
 | .cells c lo hi el fl=>if lo<=off/\off+n<=hi/\fl<=1 then aiL H i off c lo hi el fl ((ar H i off n).bind yy) else none
 | _=>none
open Classical in
def sQ:Prim:=fun args H=>match args with
 | [.ah]=>some (.tuple [],H)
 | [.slice i off n cap ex es]=>if n=0 then some (.tuple [],H) else if es=1/\n<4611686018427387904 then (H.h.get i).bind (Pu H i off n) else none
 | _=>none
end
theorem HQ (e:Em):VR e (.tuple []) (.tuple #[]) := .tuple [] #[] rfl (fun i v v' h=>by simp at h)
theorem alL {f:Nat}(CP:∀ aR w,(callFunc f aR).run Tryz.prog w = .ok (.enter f aR) w)
  (h0:∀ (p:Option Addr) (cap:Nat) (w:World),Calls Tryz.prog f #[.slice p 0 cap] w fun e w'=>e = .returned (.tuple #[])/\w'=w)
  (h1:∀ (cg off cap:Nat) (zs:List Int) (w:World),Holds (Value.int .i64) w cg off zs.toArray->cg<w.heap.size->zs.length<4611686018427387904->
   Calls Tryz.prog f #[.slice (some ⟨cg,off,none⟩) zs.length cap] w fun e w'=>e = .returned (.tuple #[])/\∃ n os,w'=grow (putRow (Value.int .i64) (Sort.ahead w n) cg off (zs.mergeSort fun x y=>decide (x<=y)).toArray) os):xn Tryz.prog f sQ:=by
 intro args H v H' hp Fr W e w aR hR ha
 unfold sQ at hp
 split at hp
 ·obtain⟨a',r1,e1,lP,iB⟩:=ha.cons_inv
  have e3:=iB.jE
  subst e3
  cases hp
  cases lP
  obtain rfl:aR = #[.slice none 0 0]:=adB.1 e1
  refine⟨CP _ _,(h0 none 0 w).mono ?_⟩
  rintro en w' ⟨rfl,rfl⟩
  exact⟨e,_,rfl,e.le_refl,hR,HQ e⟩
 ·rename_i i off n cap ex es
  obtain⟨a',r1,e1,lP,iB⟩:=ha.cons_inv
  have e3:=iB.jE
  subst e3
  split at hp
  ·rename_i kZ
   subst kZ
   cases hp
   rcases lP.lj with⟨o,c,k1,k2,k3,k4,k5,k6,rfl⟩ | ⟨_,_,a,rfl⟩
   ·obtain rfl:aR = #[.slice (some ⟨e.b i,o,none⟩) 0 c]:=adB.1 e1
    refine⟨CP _ _,(h0 _ c w).mono ?_⟩
    rintro en w' ⟨rfl,rfl⟩
    exact⟨e,_,rfl,e.le_refl,hR,HQ e⟩
   ·obtain rfl:aR = #[.slice (some a) 0 0]:=adB.1 e1
    refine⟨CP _ _,(h0 _ 0 w).mono ?_⟩
    rintro en w' ⟨rfl,rfl⟩
    exact⟨e,_,rfl,e.le_refl,hR,HQ e⟩
  ·rename_i kZ
   split at hp
   ·rename_i du
    obtain⟨rfl,Bp⟩:=du
    rcases lP.lj with⟨o,cc,k1,k2,k3,k4,k5,k6,rfl⟩ | ⟨q,_,a,rfl⟩
    ·obtain⟨ob0,hg,hp⟩:=aa6.1 hp
     unfold Pu at hp
     split at hp
     ·rename_i c lo hi el fl
      split at hp
      ·rename_i rI
       obtain⟨g1,g2,g3⟩:=rI
       cases hr:(ar H i off n).bind yy with
       | none=>rw[hr] at hp;cases hp
       | some zs=>
        rw[hr] at hp
        cases hp
        obtain⟨l,hl,hz⟩:=aa6.1 hr
        have Wn:=abm hz
        obtain⟨cs,c1,c2,c3⟩:=hR.yZ hl k2
        have hzn:zs.length=n:=by rw[<-c2,c1.1,Wn];simp[rr]
        have fu:∀ j z,zs[j]? = some z->w.cell? ⟨e.b i,o+j,none⟩=some (.int .i64 z):=by
         intro j z hj
         obtain⟨v',bQ,eu⟩:=c1.get (i:=j) (v := .int .i64 z) (by rw[Wn];simp[rr,hj])
         have:=eu.fE
         subst this
         exact c3 j _ bQ
        obtain⟨hN,ob,dV,dO,hF⟩:=hR.obj i _ hg
        cases dO with
        | cells _ _ _ _ _ C fz hn ic N1 zB hd=>
         have ez:o+n<=C.size:=by rw[hn];omega
         have hH:Holds (Value.int .i64) w (e.b i) o zs.toArray:=by
          intro j hj
          have iU:j<zs.length:=by simpa using hj
          refine⟨?_,?_⟩
          ·rw[fu j zs[j] (aai iU)]
           simp[iU]
          ·have:=zB g3 (o+j) (by omega)
           simp only[World.frozen?,dV]
           exact this
         obtain rfl:aR = #[.slice (some ⟨e.b i,o,none⟩) n cc]:=adB.1 e1
         have Fa:=h1 (e.b i) o cc zs w hH (abZ.1 dV).1 (by omega)
         rw[hzn] at Fa
         refine⟨CP _ _,Fa.mono ?_⟩
         rintro en w' ⟨rfl,m,os,rfl⟩
         refine⟨e,_,rfl,e.le_refl,?_,HQ e⟩
         have oL:=hR.drawn (w.drawn+m)
         have aC:(zs.mergeSort fun x y=>decide (x<=y))=pD zs:=rfl
         have oK:=abI zs
         rw[aC]
         generalize pD zs=ss at *
         have gI:RH Tryz.prog.globals.size Fr W e { H with h:=H.h.bP i (.cells (c.bY off (rr ss)) lo hi el fl) } (putRow (Value.int .i64) (Sort.ahead w m) (e.b i) o ss.toArray):=by
          refine oL.put hg (by simp[wr,g3]) (pf := .cells (putCells (Value.int .i64) o ss.toArray C) el fz) ?_ ?_ ?_ ?_ rfl rfl rfl
          ·simp[putRow,mapBlock,Sort.ahead]
          ·simp only[putRow,mapBlock,Sort.ahead]
           rw[CX _ _ _ dV]
           rfl
          ·intro k hk
           simp only[putRow,mapBlock,Sort.ahead]
           rw[Cf _ _ _ _ (fun q=>hk q.symm)]
          ·have kR:(putCells (Value.int .i64) o ss.toArray C).size=C.size:=by simp[putCells]
           refine .cells _ lo hi el fl _ fz (by rw[kR];exact hn) ?_ N1 (by rw[kR];exact zB) hd
           intro k u a b hk
           rw[Tr.um] at hk
           have hU:(rr ss).length=n:=by simp[rr];omega
           rw[hU] at hk
           by_cases gN:off<=k/\k<off+n
           ·rw[if_pos gN] at hk
            have pV:k-off<ss.length:=by omega
            have hu:u = .int .i64 ss[k-off]:=by
             have:(rr ss)[k-off]? = some (.int .i64 ss[k-off]):=by simp[rr,pV]
             rw[this] at hk
             exact (acN hk).symm
            subst hu
            refine⟨o+(k-off),by omega,.int .i64 ss[k-off],?_,.int _ _⟩
            have hC:o+(k-off)<C.size:=by omega
            simp only[putCells]
            rw[Array.getElem?_mapIdx,afd hC]
            simp only[aee,List.size_toArray]
            rw[if_pos (by omega),aep]
            simp[pV]
           ·rw[if_neg gN] at hk
            obtain⟨JI,yn,u',iS,eu⟩:=ic k u a b hk
            refine⟨JI,yn,u',?_,eu⟩
            simp only[putCells]
            rw[Array.getElem?_mapIdx,iS]
            simp only[aee,List.size_toArray]
            rw[if_neg (by omega)]
         exact gI.below ⟨rfl,rfl,rfl,by simp[grow],fun k hk=>by
          simp only[grow]
          rw[Array.getElem?_append_left hk]⟩
      ·cases hp
     ·cases hp
    ·omega
   ·cases hp
 ·cases hp
theorem alj:xn Tryz.prog 192 sQ:=
 alL (fun aR w=>vq (by unfold od;kernel_rfl) Tryz.func192 rfl aR w)
  (fun p cap w=>AnyM.slices_Sort_int_none Tryz.sortN p cap w) (fun cg off cap zs w hH hb hl=>AnyM.slices_Sort_int Tryz.sortN cg off cap zs w hH hb hl)
end Go.Proofs.YtodfajmihkagnaaGreatDoor.hJ
namespace Go.Proofs.YtodfajmihkagnaaGreatDoor.jR
open Go Am Go.Sort Go.RowKit Go.Proofs hJ
theorem Me:od Tryz.prog:=by unfold od;kernel_rfl
noncomputable section
open Classical in
def Ea:Prim:=fun args H=>match args with
 | [.int .u64 x]=>if 0<=x/\x<=18446744073709551615 then some (.int .i64 (Lib.bitLen x.toNat),H) else none
 | _=>none
def nz (u n:Nat):List AV:=(List.range n).map fun t=>AV.int .u8 ((Lib.dg u (n-1-t)).toNat)
open Classical in
def Q3 (H:Hp)(i off n u:Nat)(o:AO):Option (AV × Hp):=match o with
 | .cells c lo hi el fl=>if lo<=off/\off+n<=hi/\fl<=1/\(∃ l,ar H i off n=some l/\∀ v∈l,∃ b:Nat,b<256/\v = .int .u8 b) then some (.tuple [],{ H with h:=H.h.bP i (.cells (c.bY off (nz u n)) lo hi el fl) }) else none
 | _=>none
open Classical in
def Ft:Prim:=fun args H=>match args with
 | [.slice i off n cap ex es,.int .u64 u]=>if es=1/\0<n/\n<4611686018427387904/\0<=u/\u<18446744073709551616/\u.toNat<10 ^ n then (H.h.get i).bind (Q3 H i off n u.toNat) else none
 | _=>none
structure Ku (H:Hp):Prop where
 W5:∃ t p,cellAt H 6 0=some (.iface t p)
 Vt:∃ t p,cellAt H 7 0=some (.iface t p)
def wq (s:List Nat):List UInt8:=s.map UInt8.ofNat
def IN (s:List Nat):AV:=match Lib.atoiAll (wq s) with
 | .ok v => .tuple [.int .i64 v,.nilIface]
 | .range => .tuple [.int .i64 (Lib.atoiSat (wq s)),.iface 269 .cP]
 | _ => .tuple [.int .i64 0,.iface 269 .cP]
open Classical in
def GC:Prim:=fun args H=>match args with
 | [.str s]=>if Ku H/\s.length<=281474976710656 then some (IN s,H) else none
 | _=>none
end
theorem ahy:xn Tryz.prog 182 Ea:=by
 intro args H v H' hp F W e w aR hR ha
 unfold Ea at hp
 split at hp
 ·rename_i x
  split at hp
  ·rename_i hx
   cases hp
   obtain⟨a',r1,e1,lP,iB⟩:=ha.cons_inv
   have e3:=iB.jE
   subst e3
   have:=lP.fE
   subst this
   obtain rfl:aR = #[.int .u64 x]:=adB.1 e1
   refine⟨vq Me Tryz.func182 rfl _ w,(Any.bits_Len64 Tryz.lays129 x w hx.1 hx.2).mono ?_⟩
   rintro en w' ⟨rfl,rfl⟩
   exact⟨e,_,rfl,e.le_refl,hR,.int _ _⟩
  ·cases hp
 ·cases hp
theorem VR.two {e:Em}{a b:AV}{a' b':Value}(h:VR e a a')(k:VR e b b'):VR e (.tuple [a,b]) (.tuple #[a',b']):=by
 refine .tuple _ _ rfl ?_
 intro i v v' h1 h2
 match i,h1,h2 with
 | 0,h1,h2=>cases h1;cases h2;exact h
 | 1,h1,h2=>cases h1;cases h2;exact k
theorem apO:xn Tryz.prog 166 Ft:=by
 intro args H v H' hp Fr W e w aR hR ha
 unfold Ft at hp
 split at hp
 ·rename_i i off n cap ex es u
  obtain⟨a',r1,e1,lP,iB⟩:=ha.cons_inv
  obtain⟨b',r2,e2,vS,oy⟩:=iB.cons_inv
  have e3:=oy.jE
  subst e3
  have iS:=vS.fE
  subst iS
  split at hp
  ·rename_i hc
   obtain⟨rfl,kZ,Bp,hu0,ard,VY⟩:=hc
   obtain⟨un,rfl⟩:∃ un:Nat,u=un:=⟨u.toNat,by omega⟩
   rw[acr] at hp VY
   rcases lP.lj with⟨o,cc,k1,k2,k3,k4,k5,k6,rfl⟩ | ⟨q,_,a,rfl⟩
   ·obtain⟨ob0,hg,hp⟩:=aa6.1 hp
    unfold Q3 at hp
    split at hp
    ·rename_i c lo hi el fl
     split at hp
     ·rename_i rI
      obtain⟨g1,g2,g3,l,hl,mq⟩:=rI
      cases hp
      obtain⟨cs,c1,c2,c3⟩:=hR.yZ hl k2
      have HG:l.length=n:=by rw[<-c1.1,c2]
      obtain⟨d,gy,qe⟩:∃ d:List UInt8,d.length=n/\∀ (j:Nat) (z:UInt8),d[j]? = some z->l[j]? = some (AV.int .u8 (z.toNat:Int)):=by
       refine⟨l.map fun v=>match v with | AV.int _ b=>UInt8.ofNat b.toNat | _=>0,by simp[HG],fun j z hj => ?_⟩
       rw[adL,aaa] at hj
       obtain⟨v,hv,rfl⟩:=hj
       obtain⟨b,hb,rfl⟩:=mq v (aao hv)
       rw[hv]
       simp only[acr,UInt8.toNat_ofNat']
       rw[aiY hb]
      have fu:∀ (j:Nat) (z:UInt8),d[j]? = some z->w.cell? ⟨e.b i,o+j,none⟩=some (.int .u8 (z.toNat:Int)):=by
       intro j z hj
       obtain⟨v',bQ,eu⟩:=c1.get (qe j z hj)
       have:=eu.fE
       subst this
       exact c3 j _ bQ
      obtain⟨hN,ob,dV,dO,hF⟩:=hR.obj i _ hg
      cases dO with
      | cells _ _ _ _ _ C fz hn ic N1 zB hd=>
       have ez:o+n<=C.size:=by rw[hn];omega
       have hH:Holds (fun (b:UInt8)=>Value.int .u8 (b.toNat:Int)) w (e.b i) o d.toArray:=by
        intro j hj
        have iU:j<d.length:=by simpa using hj
        refine⟨?_,?_⟩
        ·rw[fu j d[j] (aai iU)]
         simp[iU]
        ·have:=zB g3 (o+j) (by omega)
         simp only[World.frozen?,dV]
         exact this
       obtain rfl:aR = #[.slice (some ⟨e.b i,o,none⟩) n cc,.int .u64 un]:=adB.1 (by rw[e1,e2])
       have Fa:=Any.internal_strconv_formatBase10 Tryz.lays285 (e.b i) o cc un d.toArray w hH (by simpa[gy] using VY) (by omega) (by simpa[gy] using Bp)
       have hdz:d.toArray.size=n:=by simp[gy]
       rw[hdz] at Fa
       refine⟨vq Me Tryz.func166 rfl _ w,Fa.mono ?_⟩
       rintro en w' ⟨rfl,m,v',dk,rfl,hinv⟩
       refine⟨e,_,rfl,e.le_refl,?_,HQ e⟩
       have hdk:∀ t,t<n->dk[t]! = Lib.dg un (n-1-t):=fun t ht=>hinv.done t (acD _) ht
       have hds:=hinv.size
       have hU:(nz un n).length=n:=by simp[nz]
       have gI:RH Tryz.prog.globals.size Fr W e { H with h:=H.h.bP i (.cells (c.bY off (nz un n)) lo hi el fl) } (putRow (fun (b:UInt8)=>Value.int .u8 (b.toNat:Int)) w (e.b i) o dk):=by
        refine hR.put hg (by simp[wr,g3]) (pf := .cells (putCells (fun (b:UInt8)=>Value.int .u8 (b.toNat:Int)) o dk C) el fz) ?_ ?_ ?_ ?_ rfl rfl rfl
        ·simp[putRow,mapBlock]
        ·simp only[putRow,mapBlock]
         rw[CX _ _ _ dV]
         rfl
        ·intro k hk
         simp only[putRow,mapBlock]
         rw[Cf _ _ _ _ (fun q=>hk q.symm)]
        ·have kR:(putCells (fun (b:UInt8)=>Value.int .u8 (b.toNat:Int)) o dk C).size=C.size:=by simp[putCells]
         refine .cells _ lo hi el fl _ fz (by rw[kR];exact hn) ?_ N1 (by rw[kR];exact zB) hd
         intro k u' a b hk
         rw[Tr.um,hU] at hk
         by_cases gN:off<=k/\k<off+n
         ·rw[if_pos gN] at hk
          have hj:k-off<n:=by omega
          have hu:u' = .int .u8 ((Lib.dg un (n-1-(k-off))).toNat):=by
           have:(nz un n)[k-off]? = some (.int .u8 ((Lib.dg un (n-1-(k-off))).toNat)):=by simp[nz,hj]
           rw[this] at hk
           exact (acN hk).symm
          subst hu
          refine⟨o+(k-off),by omega,.int .u8 ((Lib.dg un (n-1-(k-off))).toNat),?_,.int _ _⟩
          have hC:o+(k-off)<C.size:=by omega
          simp only[putCells]
          rw[Array.getElem?_mapIdx,afd hC]
          simp only[aee]
          rw[if_pos (by omega),aep,hdk _ hj]
         ·rw[if_neg gN] at hk
          obtain⟨JI,yn,u2,qV,eu⟩:=ic k u' a b hk
          refine⟨JI,yn,u2,?_,eu⟩
          simp only[putCells]
          rw[Array.getElem?_mapIdx,qV]
          simp only[aee]
          rw[if_neg (by omega)]
       exact gI.drawn _
     ·cases hp
    ·cases hp
   ·omega
  ·cases hp
 ·cases hp
theorem Ku.cells {Fr:Nat->Prop}{W:World}{e:Em}{H:Hp}{w:World}(h:Ku H)(hR:RH Tryz.prog.globals.size Fr W e H w) :
  (∃ t p,w.cell? ⟨6,0,none⟩=some (.iface t p))/\∃ t p,w.cell? ⟨7,0,none⟩=some (.iface t p):=by
 have qd:6<Tryz.prog.globals.size:=by rw[<-adE];kernel_rfl
 have DO:7<Tryz.prog.globals.size:=by rw[<-adE];kernel_rfl
 have key:∀ g k v,g<Tryz.prog.globals.size->cellAt H g (k:Nat)=some v->∃ v',w.cell? ⟨g,k,none⟩=some v'/\VR e v v':=by
  intro g k v hg hc
  obtain⟨_,o,ho,v',h1,h2⟩:=hR.load hc
  obtain⟨_,hb,hd⟩:=hR.pK g hg
  rw[hb] at h1
  rw[hd] at ho
  obtain rfl:o=k:=by omega
  exact⟨v',h1,h2⟩
 refine⟨?_,?_⟩
 ·obtain⟨t,p,hc⟩:=h.W5
  obtain⟨v',h1,h2⟩:=key _ 0 _ qd hc
  cases h2
  exact⟨_,_,h1⟩
 ·obtain⟨t,p,hc⟩:=h.Vt
  obtain⟨v',h1,h2⟩:=key _ 0 _ DO hc
  cases h2
  exact⟨_,_,h1⟩
theorem ahr (s:ByteArray):wq (Am.bytes s)=s.data.toList:=by
 unfold wq Am.bytes
 rw[ajf,List.map_congr_left (g:=id) (fun x _=>by simp)]
 simp
theorem ai4:xn Tryz.prog 173 GC:=by
 intro args H v H' hp F W e w aR hR ha
 unfold GC at hp
 split at hp
 ·rename_i s
  split at hp
  ·rename_i hx
   cases hp
   obtain⟨hE,hlen⟩:=hx
   obtain⟨a',r1,e1,lP,iB⟩:=ha.cons_inv
   have e3:=iB.jE
   subst e3
   obtain⟨s',rfl,rfl⟩:=lP.lU
   obtain rfl:aR = #[.string s']:=adB.1 e1
   refine⟨vq Me Tryz.func173 rfl _ w,?_⟩
   have hl:s'.size<=281474976710656:=by
    have:s'.size=(Am.bytes s').length:=by simp[Am.bytes]
    omega
   obtain⟨⟨t1,p1,q1⟩,⟨t2,p2,q2⟩⟩:=hE.cells hR
   unfold IN
   rw[ahr]
   cases hr:Lib.atoiAll s'.data.toList with
   | ok v=>
    refine (Any.strconv_Atoi_ok Tryz.laysC172 s' (by omega) v hr w).mono ?_
    rintro en w' ⟨rfl,hw⟩
    refine⟨e,_,rfl,e.le_refl,?_,VR.two (.int _ _) .nilIface⟩
    rcases hw with rfl | ⟨t,rfl⟩
    ·exact hR
    ·exact hR.below (Lib.bytesWorld_below _ _ _)
   | range=>
    refine (Any.strconv_Atoi_range Tryz.laysC172 s' hl hr _ w q2 (.inr ⟨_,_,rfl⟩)).mono ?_
    rintro en w' ⟨N,rfl,_,_,hb⟩
    exact⟨e,_,rfl,e.le_refl,hR.below hb,VR.two (.int _ _) (.iface _ _ _ (.cP _))⟩
   | _=>
    refine (Any.strconv_Atoi_syntax Tryz.laysC172 s' hl hr _ w q1 (.inr ⟨_,_,rfl⟩)).mono ?_
    rintro en w' ⟨N,rfl,_,_,hb⟩
    exact⟨e,_,rfl,e.le_refl,hR.below hb,VR.two (.int _ _) (.iface _ _ _ (.cP _))⟩
  ·cases hp
 ·cases hp
end Go.Proofs.YtodfajmihkagnaaGreatDoor.jR
namespace Go.Proofs.YtodfajmihkagnaaGreatDoor.kb
open Go Go.RowKit Am
def ext (g:Nat):Option Ext:=bif Nat.beq g 168 then some .same else bif Nat.beq g 169 then some (.DZ 52) else bif Nat.beq g 197 then some .K4 else bif Nat.beq g 171 then some .count else none
theorem ZC:wC Tryz.prog ext:=by
 intro aX k h aR w
 unfold ext at h
 cases h1:Nat.beq aX 168 with
 | true=>
  rw[h1] at h
  cases h
  obtain rfl:=abp h1
  exact Iw (e:=Extern.AbiNoEscape.same) Tryz.func168 (by kernel_rfl) (by kernel_rfl) (by kernel_rfl) (by kernel_rfl) rfl aR w
 | false=>
  rw[h1] at h
  clear h1
  cases h1:Nat.beq aX 169 with
  | true=>
   rw[h1] at h
   cases h
   obtain rfl:=abp h1
   exact Iw (e:=Extern.BytealgMakeNoZero.makeNoZero #[] #[52]) Tryz.func169 (by kernel_rfl) (by kernel_rfl) (by kernel_rfl) (by kernel_rfl) rfl aR w
  | false=>
   rw[h1] at h
   clear h1
   cases h1:Nat.beq aX 197 with
   | true=>
    rw[h1] at h
    cases h
    obtain rfl:=abp h1
    exact Iw (e:=Extern.BytealgIndexByte.indexByte) Tryz.func197 (by kernel_rfl) (by kernel_rfl) (by kernel_rfl) (by kernel_rfl) rfl aR w
   | false=>
    rw[h1] at h
    clear h1
    cases h1:Nat.beq aX 171 with
    | true=>
     rw[h1] at h
     cases h
     obtain rfl:=abp h1
     exact Iw (e:=Extern.BytealgCount.count) Tryz.func171 (by kernel_rfl) (by kernel_rfl) (by kernel_rfl) (by kernel_rfl) rfl aR w
    | false=>
     rw[h1] at h
     clear h1
     cases h
noncomputable def Lh (g:Nat):Option Prim:=bif Nat.beq g 91 then some Am.Fs else none
theorem WR:tn Tryz.prog Lh:=by
 intro aX p h args H v H' hp
 unfold Lh at h
 cases h1:Nat.beq aX 91 with
 | true=>
  rw[h1] at h
  cases h
  obtain rfl:=abp h1
  exact UE.adr args H v H' hp
 | false=>
  rw[h1] at h
  clear h1
  cases h
theorem SJ:od Tryz.prog:=by unfold od;kernel_rfl
theorem mixed:Tryz.prog.follows .mixedOrders=true:=by kernel_rfl
def Ls:List Int:=[1,10,100,1000,10000,100000,1000000,10000000,100000000,1000000000,10000000000,100000000000,1000000000000,10000000000000,100000000000000,1000000000000000,10000000000000000,100000000000000000,1000000000000000000,10000000000000000000]
def Wb:List Int:=[0,1,28,2,29,14,24,3,30,22,20,15,25,17,4,8,31,27,13,23,21,19,16,7,26,12,18,6,11,5,10,9]
def We:List Int:=[0,1,56,2,57,49,28,3,61,58,42,50,38,29,17,4,62,47,59,36,45,43,51,22,53,39,33,30,24,18,12,5,63,55,48,27,60,41,37,16,46,35,44,21,52,32,23,11,54,26,40,15,34,20,31,10,25,14,19,9,13,8,7,6]
def oW:List (Nat × List AV):=[(0,Ls.map (AV.int .u64)),(4,Wb.map (AV.int .u8)),(5,We.map (AV.int .u8)),(6,[.iface 290 (.ptr 10 0)]),(7,[.iface 290 (.ptr 9 0)])]
abbrev laid : List (String × DataW Unit) := [("math/bits.deBruijn32tab", Rows.laid_math_bits_deBruijn32tab), ("math/bits.deBruijn64tab", Rows.laid_math_bits_deBruijn64tab), ("internal/strconv.uint64pow10", Rows.laid_internal_strconv_uint64pow10), ("unicode/utf8.acceptRanges", Rows.laid_unicode_utf8_acceptRanges), ("strconv.ErrRange", Rows.laid_strconv_ErrRange), ("strconv.ErrSyntax", Rows.laid_strconv_ErrSyntax), ("unicode/utf8.first", Rows.laid_unicode_utf8_first)]
theorem star : "*" ++ "errors.errorString" = "*errors.errorString" := by decide
theorem W4 (u : TypeId)(h : Tryz.prog.typeName? 3 u = some "*errors.errorString") : u = 290 :=
 typeName_ptr_named (nm := "errors.errorString") (by rw[star];kernel_rfl) (by kernel_rfl) (by decide) u (by rw[star];exact h)
theorem ank {W:World}(h:laidMet Tryz.prog laid W)(ez:8<=W.heap.size)(bx:Nat->Nat)(dx:Nat->Int)(nx:Nat->Nat){N:Nat}(hN:11<=N){PO:List (Nat × AO)}
  (hP:∀ i o,(i,o)∈PO->11<=i/\i<N/\wr o=false/\∃ ob,W.heap[bx i]? = some ob/\∀ e:Em,e.N=N->(∀ j,11<=j->e.b j=bx j/\e.d j=dx j/\e.n j=nx j)->OR e i o ob) :
  ∃ e,RH Tryz.prog.globals.size (fun k=>k<W.heap.size) W e ⟨rf PO (qw (yQ W) oW),N⟩ W/\e.N=N/\∀ j,11<=j->e.b j=bx j/\e.d j=dx j/\e.n j=nx j:=by
 have hs:Tryz.prog.globals.size=8:=by kernel_rfl
 rw[hs]
 obtain⟨b0, o0, t0, w0⟩ := Yj (n := "strconv.ErrRange") (nm := "*errors.errorString") (tp := 290) (te := 292) (ts := 9) h (.tail _ (.tail _ (.tail _ (.tail _ (.head _))))) (g := 7) (ti := 183) (by kernel_rfl) (by kernel_rfl) Tryz.underlying183 W4 Tryz.underlying290 Tryz.underlying292 rfl rfl Tryz.underlying9 (by kernel_rfl) (by kernel_rfl)
 obtain⟨b1, o1, t1, w1⟩ := Yj (n := "strconv.ErrSyntax") (nm := "*errors.errorString") (tp := 290) (te := 292) (ts := 9) h (.tail _ (.tail _ (.tail _ (.tail _ (.tail _ (.head _)))))) (g := 6) (ti := 183) (by kernel_rfl) (by kernel_rfl) Tryz.underlying183 W4 Tryz.underlying290 Tryz.underlying292 rfl rfl Tryz.underlying9 (by kernel_rfl) (by kernel_rfl)
 let bz:Nat->Nat:=fun i=>if i=9 then b0 else if i=10 then b1 else bx i
 let dz:Nat->Int:=fun i=>if i=9 then (o0:Int) else if i=10 then (o1:Int) else dx i
 have T0 := fun em : Em => ND (name := "internal/strconv.uint64pow10") (k := .u64) (zs := Ls) h (.tail _ (.tail _ (.head _))) (g := 0) (by kernel_rfl) (by kernel_rfl) Tryz.underlying254 Tryz.underlying118 (by kernel_rfl) (by kernel_rfl) (by decide) em
 have T4 := fun em : Em => ND (name := "math/bits.deBruijn32tab") (k := .u8) (zs := Wb) h (.head _) (g := 4) (by kernel_rfl) (by kernel_rfl) Tryz.underlying273 Tryz.underlying5 (by kernel_rfl) (by kernel_rfl) (by decide) em
 have T5 := fun em : Em => ND (name := "math/bits.deBruijn64tab") (k := .u8) (zs := We) h (.tail _ (.head _)) (g := 5) (by kernel_rfl) (by kernel_rfl) Tryz.underlying274 Tryz.underlying5 (by kernel_rfl) (by kernel_rfl) (by decide) em
 have hj:∀ j,11<=j->(Am.start W 8 N bz dz nx).b j=bx j/\(Am.start W 8 N bz dz nx).d j=dx j/\(Am.start W 8 N bz dz nx).n j=nx j:=by
  intro j hj
  refine⟨?_,?_,?_⟩<;>simp only[Am.start,bz,dz]<;>(repeat rw[if_neg (by omega)])
 refine⟨Am.start W 8 N bz dz nx,RH.start bz dz nx (by omega) (by decide) ez ?_ ?_,rfl,hj⟩
 ·intro g l hm
  simp only[oW,aaD,acn,List.mem_nil_iff,or_false] at hm
  rcases hm with⟨rfl,rfl⟩ | ⟨rfl,rfl⟩ | ⟨rfl,rfl⟩ | ⟨rfl,rfl⟩ | ⟨rfl,rfl⟩
  ·exact⟨by decide,by decide,T0 _⟩
  ·exact⟨by decide,by decide,T4 _⟩
  ·exact⟨by decide,by decide,T5 _⟩
  ·refine⟨by decide,by decide,_,t1,w1,fun k v hv => ?_⟩
   cases k with
   | zero=>
    simp only[adg,acV] at hv
    subst hv
    exact⟨_,rfl,.iface _ _ _ (.ptr (e:=Am.start W 8 N bz dz nx) 10 0 o1 (show (10:Nat)<N by omega) (by simp[Am.start,dz]))⟩
   | succ k=>simp at hv
  ·refine⟨by decide,by decide,_,t0,w0,fun k v hv => ?_⟩
   cases k with
   | zero=>
    simp only[adg,acV] at hv
    subst hv
    exact⟨_,rfl,.iface _ _ _ (.ptr (e:=Am.start W 8 N bz dz nx) 9 0 o0 (show (9:Nat)<N by omega) (by simp[Am.start,dz]))⟩
   | succ k=>simp at hv
 ·intro i o hm
  obtain⟨h1,h2,h3,ob,h4,h5⟩:=hP i o hm
  exact⟨by omega,h2,h3,ob,by have:=(hj i h1).1;simp only[Am.start,if_neg (show ¬ i<8 by omega)] at this;rw[this];exact h4,h5 _ rfl hj⟩
theorem ama:Tryz.prog.globals.size<11:=by
 have hs:Tryz.prog.globals.size=8:=by kernel_rfl
 omega
theorem af8 (el:Nat->TypeId):KX (Jr (Tryz.prog) ext Lh 20000 11 [] ⟨qw el oW,11⟩)=true:=by kernel_rfl
theorem adQ:xn Tryz.prog 11 (JC oW 11):=
 adb mixed SJ ZC WR Tryz.func11 rfl ama
  (by
   have hs:Tryz.prog.globals.size=8:=by kernel_rfl
   rw[hs]
   intro g l hm
   simp only[oW,aaD,acn,List.mem_nil_iff,or_false] at hm;rcases hm with⟨rfl,rfl⟩ | ⟨rfl,rfl⟩ | ⟨rfl,rfl⟩ | ⟨rfl,rfl⟩ | ⟨rfl,rfl⟩<;>exact⟨by decide,by decide,by decide,by decide⟩) fun el=>af8 el
noncomputable def OZ (g:Nat):Option Prim:=bif Nat.beq g 182 then some jR.Ea else bif Nat.beq g 166 then some jR.Ft else bif Nat.beq g 173 then some jR.GC else bif Nat.beq g 192 then some hJ.sQ else Lh g
theorem afl:tn Tryz.prog OZ:=by
 intro aX p h args H v H' hp
 unfold OZ at h
 cases h1:Nat.beq aX 182 with
 | true=>
  rw[h1] at h
  cases h
  obtain rfl:=abp h1
  exact jR.ahy args H v H' hp
 | false=>
  rw[h1] at h
  clear h1
  cases h1:Nat.beq aX 166 with
  | true=>
   rw[h1] at h
   cases h
   obtain rfl:=abp h1
   exact jR.apO args H v H' hp
  | false=>
   rw[h1] at h
   clear h1
   cases h1:Nat.beq aX 173 with
   | true=>
    rw[h1] at h
    cases h
    obtain rfl:=abp h1
    exact jR.ai4 args H v H' hp
   | false=>
    rw[h1] at h
    clear h1
    cases h1:Nat.beq aX 192 with
    | true=>
     rw[h1] at h
     cases h
     obtain rfl:=abp h1
     exact hJ.alj args H v H' hp
    | false=>
     rw[h1] at h
     clear h1
     exact WR aX p h args H v H' hp
noncomputable def aQ (g:Nat):Option Prim:=bif Nat.beq g 11 then some (JC oW 11) else OZ g
theorem ae0:tn Tryz.prog aQ:=by
 intro aX p h args H v H' hp
 unfold aQ at h
 cases h1:Nat.beq aX 11 with
 | true=>
  rw[h1] at h
  cases h
  obtain rfl:=abp h1
  exact adQ args H v H' hp
 | false=>
  rw[h1] at h
  clear h1
  exact afl aX p h args H v H' hp
theorem acE {Q:Type}{enc:TypeId × Value->Q}{g:Nat}{fn:Func}{b:Code}(hf:Tryz.prog.funcs[g]? = some fn)(hb:fn.body=some b)(an:Nat->K.An)(hA:K.vT Tryz.prog an){W:World}(hL:laidMet Tryz.prog laid W)(ez:8<=W.heap.size){base:Nat}{spare:Nat->Bool}{held:Bool}(mh:∀ b,spare b=true){rm:List K.Ty}{vs:List Value}
  (ha:K.FE enc Tryz.prog W base spare held rm vs) (law:∀ H aR ds,K.Dm H rm aR ds->BY H oW->11<=H.next->∃ H',K.CK Tryz.prog (K.rH Tryz.prog) ext aQ an (.func (.func g) [] []) aR H=some (.bool true,H')) :
  Calls Tryz.prog g vs.toArray W fun en w'=>en = .returned (.bool true)/\Below W.heap.size W w':=by
 obtain⟨aR,os,ds,a1,a2,a3,a4⟩:=K.ahu mh ha 11
 have hs:Tryz.prog.globals.size=8:=by kernel_rfl
 obtain⟨e,hR,hN,hj⟩:=ank hL ez (fun i=>((os[i-11]?).map (·.b)).getD 0) (fun _=>0) (fun i=>((os[i-11]?).map (·.n)).getD 0) (N:=11+os.length) (by omega) (PO:=K.vo 11 os) (by
  intro i o hm
  obtain⟨j,ob,h1,rfl,rfl⟩:=K.WM os 11 i o hm
  have pV:=(aah.1 h1).1
  have XX:∀ e:Em,e.N=11+os.length->(∀ j,11<=j->e.b j=((os[j-11]?).map (·.b)).getD 0/\e.d j=0/\e.n j=((os[j-11]?).map (·.n)).getD 0)->K.Fits e 11 os:=by
   intro e he hj
   refine⟨by omega,fun j o ho => ?_⟩
   obtain⟨x,y,z⟩:=hj (11+j) (by omega)
   rw[aep,ho] at x z
   exact⟨x,y,z⟩
  have hex:∃ ow,W.heap[ob.b]? = some ow:=by
   let e0:Em:=⟨fun j=>((os[j-11]?).map (·.b)).getD 0,fun _=>0,fun j=>((os[j-11]?).map (·.n)).getD 0,11+os.length⟩
   obtain⟨ow,h,_⟩:=a2 e0 (XX e0 rfl fun j _=>⟨rfl,rfl,rfl⟩) j ob h1
   exact⟨ow,h⟩
  obtain⟨ow,how⟩:=hex
  refine⟨by omega,by omega,a3 ob (aao h1),ow,?_,fun e he hj => ?_⟩
  ·rw[aep,h1];exact how
  ·obtain⟨ow2,h,h2⟩:=a2 e (XX e he hj) j ob h1
   rw[how] at h;cases h
   exact h2)
 have Ir:K.Fits e 11 os:=by
  refine⟨by omega,fun j o ho => ?_⟩
  obtain⟨x,y,z⟩:=hj (11+j) (by omega)
  rw[aep,ho] at x z
  exact⟨x,y,z⟩
 have aoU:K.Has ⟨rf (K.vo 11 os) (qw (yQ W) oW),11+os.length⟩ 11 os:=⟨aaC _,fun j o ho=>K.Tu os 11 _ j o ho⟩
 have hT:BY ⟨rf (K.vo 11 os) (qw (yQ W) oW),11+os.length⟩ oW:=by
  refine⟨yQ W,fun g l hm => ?_⟩
  have hg:g<11:=by
   simp only[oW,aaD,acn,List.mem_nil_iff,or_false] at hm;rcases hm with⟨rfl,rfl⟩ | ⟨rfl,rfl⟩ | ⟨rfl,rfl⟩ | ⟨rfl,rfl⟩ | ⟨rfl,rfl⟩<;>decide
  show (rf _ _).get g=_
  rw[K.abB os 11 _ g hg]
  exact K.Zt _ _ (by decide) g l hm
 obtain⟨H',hk⟩:=law _ aR ds (a4 _ aoU) hT (Nat.le_add_right _ _)
 refine (K.ag2 mixed SJ ZC ae0 K.acy hA hk hf hb hR (aR:=vs.toArray) (by simpa using a1 e Ir)).mono fun en w' ⟨e',v',h1,_,bw,hv⟩ => ?_
 have:=hv.sw
 subst this
 exact⟨h1,⟨bw.os,bw.tape,bw.output,bw.size,fun k hk=>(bw.frame k hk).2⟩⟩
end Go.Proofs.YtodfajmihkagnaaGreatDoor.kb
namespace Go.Proofs.YtodfajmihkagnaaGreatDoor.DfK
open Go Am Am.K kb
noncomputable section
noncomputable abbrev P:Program:=Tryz.prog
noncomputable def Re : List (Nat × An) := [
 (88, (.n (.n .nl))),
 (116, (.n (.q (.n (.cd (.n .nl) .nl)) (.s [0, 1, 2, 3] (.n (.cd (.n .nl) .nl)) (.s [0, 1, 2, 3] (.n (.cd .nl .nl)) (.t [0, 1, 2, 3] (.n (.n (.n (.s [0, 9, 10] (.v [0, 9, 10] (.lp [0, 1, 2, 3, 9, 10] (.q (.n (.cd .nl .nl)) (.b (.n (.q (.n (.cd .nl .nl)) (.t [0, 1, 2, 3, 9, 10, 11] (.t [0, 1, 2, 3, 9, 10] .nl)))))))) (.t [9, 10] (.n .nl)))))))))))),
 (150, (.n (.s [0, 1] (.n (.cd (.n .nl) .nl)) (.s [0, 1] (.n (.cd (.n .nl) .nl)) (.n (.v [4] (.lp [0, 1, 5] (.b (.n (.q (.n (.cd (.n .nl) .nl)) (.n .nl))))))))))),
 (151, (.n (.n .nl))),
 (117, (.n (.n .nl))),
 (85, (.n (.s [0, 1] (.n (.b (.n (.cd (.n .nl) (.n (.cd (.n .nl) .nl)))))) (.n (.s [0, 1, 5] (.n (.cd (.s [0, 1, 5] (.t [0, 1, 5, 29] (.cd .nl .nl)) .nl) .nl)) (.s [0, 1, 5] (.n (.v [0, 1, 5] (.lp [0, 1, 5, 39, 40, 41] (.n (.q (.cd .nl .nl) (.s [0, 1, 5, 39, 40, 41] (.b (.n (.s [0, 1, 5, 7, 39, 40, 41] (.t [0, 1, 5, 7, 39, 40, 41, 49] (.cd .nl .nl)) .nl))) .nl)))))) (.n (.n (.n (.s [8] (.n (.v [8] (.lp [1, 8, 63, 64, 65] (.n (.q (.cd .nl .nl) (.s [1, 8, 63, 64, 65] (.b (.n (.n .nl))) .nl)))))) (.n .nl))))))))))),
 (172, (.n (.n (.s [0, 1, 5] (.b (.t [0, 1, 5, 16] (.cd (.n .nl) (.n (.cd (.n .nl) (.t [0, 1, 5, 31] (.cd (.n .nl) (.t [0, 1, 5, 36] (.cd (.n .nl) .nl))))))))) (.n (.n (.n (.t [0, 1, 5, 6, 7, 8, 9] (.n (.s [] (.v [] (.lp [0, 1, 5, 6, 7, 8, 9, 10] (.q (.n (.cd .nl .nl)) (.b (.s [0, 1, 5, 6, 7, 8, 9, 10] (.t [0, 1, 5, 6, 7, 8, 9, 10, 64] (.cd (.t [0, 1, 5, 6, 7, 8, 9, 10, 11] (.q (.n (.cd (.n .nl) .nl)) .nl)) .nl)) (.s [0, 1, 5, 6, 7, 8, 9, 10] (.t [0, 1, 5, 6, 7, 8, 9, 10, 93] (.cd (.n .nl) .nl)) (.n (.n (.t [0, 1, 5, 6, 7, 8, 9, 10, 107] (.cd (.t [8, 12] (.s [] (.n (.cd (.n .nl) .nl)) (.n .nl))) (.t [0, 1, 5, 6, 7, 8, 9, 10, 132] (.cd (.t [8, 13] (.q (.n (.cd (.n .nl) .nl)) (.n .nl))) .nl)))))))))))) (.n .nl))))))))))),
 (186, (.n (.n .nl))),
 (152, (.n (.s [0] (.n (.n (.cd (.n .nl) .nl))) (.n .nl)))),
 (112, (.n (.s [0, 1] (.n (.cd .nl .nl)) (.t [0, 1, 21] (.cd .nl .nl))))),
 (113, (.n (.n (.t [1] (.n .nl))))),
 (114, (.n (.n .nl))),
 (147, (.t [0, 6] (.cd .nl (.t [19] (.cd .nl .nl))))),
 (148, (.t [0, 4] (.t [0, 4] .nl))),
 (84, (.n (.n .nl))),
 (111, (.n (.n .nl))),
 (146, (.n (.s [0, 1] (.n (.cd (.s [0] (.t [0, 17] (.cd (.n .nl) .nl)) (.n (.n (.s [0, 5, 6] (.n (.cd .nl .nl)) (.n (.t [0, 5, 7] (.s [5, 7] (.n (.cd (.n (.n .nl)) .nl)) (.n .nl)))))))) .nl)) (.t [9] (.n .nl))))),
 (164, (.n (.s [0] (.n (.cd (.n .nl) .nl)) (.n .nl)))),
 (165, (.n (.n (.n .nl)))),
 (181, (.n (.n .nl))),
 (183, (.n (.q (.n (.cd (.n .nl) .nl)) (.n .nl)))),
 (104, (.n (.s [] (.n (.v [] (.lp [0, 1, 7, 8] (.n (.q (.cd .nl .nl) (.s [0, 1, 7, 8] (.b (.n (.t [0, 1, 5, 7, 8, 16] (.cd (.n .nl) .nl)))) .nl)))))) (.n .nl)))),
 (94, (.n (.n .nl))),
 (177, (.n (.s [] (.n (.v [] (.lp [0, 3, 7, 8] (.n (.q (.cd .nl .nl) (.s [0, 3, 7, 8] (.b (.n (.t [0, 3, 5, 7, 8, 16] (.cd (.n .nl) .nl)))) .nl)))))) (.n .nl)))),
 (158, (.n (.n .nl))),
 (143, (.n (.n .nl))),
 (163, (.n (.s [] (.n (.v [] (.lp [0, 1, 7, 8] (.n (.q (.cd .nl .nl) (.s [0, 1, 7, 8] (.b (.n (.t [0, 1, 5, 7, 8, 16] (.cd (.n .nl) .nl)))) .nl)))))) (.n .nl)))),
 (174, (.n (.s [] (.n (.v [] (.lp [0, 1, 7, 8] (.n (.q (.cd .nl .nl) (.s [0, 1, 7, 8] (.b (.n (.t [0, 1, 5, 7, 8, 16] (.cd (.n .nl) .nl)))) .nl)))))) (.n .nl)))),
 (154, (.n (.n .nl))),
 (95, (.n (.n .nl))),
 (135, (.n (.s [] (.n (.v [] (.lp [0, 1, 7, 8] (.n (.q (.cd .nl .nl) (.s [0, 1, 7, 8] (.b (.n (.t [0, 1, 5, 7, 8, 16] (.cd (.n .nl) .nl)))) .nl)))))) (.n .nl)))),
 (136, (.n (.q (.n (.cd (.n .nl) .nl)) (.n .nl)))),
 (137, (.n (.q (.n (.cd (.n .nl) .nl)) (.n .nl)))),
 (138, (.n (.q (.n (.cd (.n .nl) .nl)) (.n .nl)))),
 (30, (.n (.q (.n (.cd (.n .nl) .nl)) (.n .nl)))),
 (155, (.n (.s [1] (.t [1, 13] (.cd (.n .nl) .nl)) (.n (.s [] (.n (.v [] (.lp [1, 3, 16, 17, 18] (.n (.q (.cd .nl .nl) (.s [1, 3, 16, 17, 18] (.b (.n (.s [1, 3, 5, 16, 17, 18] (.t [1, 3, 5, 16, 17, 18, 45] (.cd (.n .nl) .nl)) .nl))) .nl)))))) (.n .nl)))))),
 (175, (.n (.n .nl))),
 (176, (.n (.q (.n (.cd (.n .nl) .nl)) (.n (.s [7] (.n (.v [7] (.lp [1, 2, 7, 14, 15, 16] (.n (.q (.cd .nl .nl) (.s [1, 2, 7, 14, 15, 16] (.v [1, 2, 7, 14, 15, 16] (.n (.t [1, 2, 7, 9, 14, 15, 16, 24] (.cd .nl .nl)))) .nl)))))) (.n (.n .nl))))))),
 (157, (.n (.n .nl))),
 (156, (.n (.n (.n (.s [5] (.n (.v [5] (.lp [2, 5, 6, 7] (.q (.n (.cd .nl .nl)) (.s [2, 5, 6, 7] (.v [2, 5, 6, 7] (.n (.s [2, 5, 7, 8] (.n (.v [2, 5, 7, 8] (.lp [2, 5, 7, 8, 23, 24, 25] (.n (.q (.cd .nl .nl) (.s [2, 5, 7, 8, 23, 24, 25] (.v [2, 5, 7, 8, 23, 24, 25] (.n (.t [2, 5, 7, 8, 23, 24, 25, 31, 32, 33] (.v [2, 5, 7, 8, 23, 24, 25] (.lp [2, 5, 7, 8, 23, 24, 25, 31, 32, 33] (.n (.q (.cd .nl .nl) (.s [2, 5, 7, 8, 23, 24, 25, 31, 32, 33] (.v [2, 5, 7, 8, 23, 24, 25, 31, 32, 33] (.n (.t [2, 5, 7, 8, 12, 23, 24, 25, 31, 32, 33, 41] (.cd (.t [2, 5, 7, 8, 12, 23, 24, 25, 31, 32, 33] .nl) .nl)))) .nl)))))))) .nl)))))) .nl))) .nl))))) (.n .nl)))))),
 (126, (.n (.q (.n (.cd (.n .nl) .nl)) (.n (.s [1, 3, 4] (.n (.v [1, 3, 4] (.lp [1, 3, 4, 15, 16] (.n (.q (.cd .nl .nl) (.s [1, 3, 4, 15, 16] (.v [1, 3, 4, 15, 16] (.n (.t [1, 3, 4, 5, 6, 15, 16] (.t [1, 3, 4, 5, 6, 15, 16, 35] (.cd .nl .nl))))) .nl)))))) (.q (.n (.cd (.n .nl) .nl)) (.n (.s [7] (.n (.v [7] (.lp [1, 3, 7, 8] (.q (.n (.cd .nl .nl)) (.s [1, 3, 7, 8] (.v [1, 3, 7, 8] (.t [1, 3, 7, 8, 56, 57, 58] (.v [1, 3, 7, 8] (.lp [1, 3, 7, 8, 56, 57, 58] (.n (.q (.cd .nl .nl) (.s [1, 3, 7, 8, 56, 57, 58] (.b (.n (.t [1, 3, 7, 8, 10, 56, 57, 58, 74] (.cd (.n .nl) .nl)))) .nl))))))) .nl))))) (.n .nl))))))))),
 (54, (.n (.n .nl))),
 (153, (.n (.s [0] (.n (.cd (.n .nl) .nl)) (.t [0, 4, 5] (.n .nl))))),
 (118, (.n (.t [0, 1, 2, 3, 9, 10] (.s [10] (.n (.v [10] (.n (.cd (.s [] (.n (.v [] (.lp [0, 3, 23, 24, 25] (.n (.q (.cd .nl .nl) (.s [0, 3, 23, 24, 25] (.b (.n (.n (.q (.n (.cd (.n .nl) .nl)) .nl)))) .nl)))))) (.n .nl)) (.n (.cd .nl (.n (.cd .nl (.n (.cd .nl (.n (.cd (.t [2] (.n .nl)) .nl)))))))))))) (.n .nl))))),
 (89, (.n (.t [0, 1, 4, 6] (.n (.s [4, 6] (.n (.v [4, 6] (.lp [1, 4, 6, 7, 20, 21, 22] (.n (.q (.cd .nl .nl) (.s [1, 4, 6, 7, 20, 21, 22] (.b (.n (.t [1, 4, 6, 7, 9, 10, 11, 20, 21, 22] (.n (.s [1, 4, 6, 7, 13, 20, 21, 22] (.t [1, 4, 6, 7, 13, 20, 21, 22, 50] (.cd (.n .nl) .nl)) .nl))))) .nl)))))) (.n .nl)))))),
 (53, (.n (.s [0, 2] (.n (.cd (.n .nl) .nl)) (.n (.n (.s [2, 4, 5] (.n (.v [2, 4, 5] (.lp [2, 4, 5, 20, 21, 22] (.n (.q (.cd .nl .nl) (.s [2, 4, 5, 20, 21, 22] (.b (.n (.n (.t [2, 4, 5, 8, 20, 21, 22] .nl)))) .nl)))))) (.n (.s [2, 9] (.n (.v [2, 9] (.lp [2, 5, 9, 39, 40, 41] (.n (.q (.cd .nl .nl) (.s [2, 5, 9, 39, 40, 41] (.b (.n (.t [2, 5, 9, 12, 13, 39, 40, 41] (.s [2, 5, 9, 12, 39, 40, 41] (.n (.cd (.n .nl) .nl)) .nl)))) .nl)))))) (.s [2, 9] (.n (.n (.cd (.n .nl) .nl))) (.n .nl)))))))))),
 (119, (.n (.n .nl))),
 (125, (.n (.s [] (.n (.v [] (.lp [1, 8, 9, 10] (.n (.q (.cd .nl .nl) (.s [1, 8, 9, 10] (.b (.t [1, 5, 6, 8, 9, 10] (.n (.cd (.n .nl) .nl)))) .nl)))))) (.n .nl)))),
 (90, (.n (.s [1] (.t [1, 10] (.cd (.n .nl) .nl)) (.n (.s [1] (.t [1, 18, 19, 20] (.v [1] (.lp [1, 18, 19, 20] (.n (.q (.cd .nl .nl) (.s [1, 18, 19, 20] (.b (.n (.n (.cd (.n .nl) .nl)))) .nl)))))) (.s [] (.t [35] (.cd (.n .nl) .nl)) (.n .nl))))))),
 (120, (.n (.n .nl))),
 (121, (.n (.t [2, 4, 6] (.n (.n .nl))))),
 (122, (.n (.n .nl))),
 (123, (.n (.n .nl))),
 (124, (.n (.s [] (.n (.v [] (.lp [1, 2, 3, 9, 10, 11] (.n (.q (.cd .nl .nl) (.s [1, 2, 3, 9, 10, 11] (.b (.t [1, 2, 3, 7, 8, 9, 10, 11] (.t [1, 2, 3, 9, 10, 11, 34] (.cd (.n .nl) .nl)))) .nl)))))) (.n .nl)))),
 (55, (.n (.q (.n (.cd (.n .nl) .nl)) (.n (.s [3] (.n (.v [3] (.lp [1, 3, 13, 14, 15] (.n (.q (.cd .nl .nl) (.s [1, 3, 13, 14, 15] (.v [1, 3, 13, 14, 15] (.n (.n (.s [1, 3, 5, 6, 13, 14, 15] (.n (.v [1, 3, 5, 6, 13, 14, 15] (.lp [1, 3, 5, 6, 13, 14, 15, 22, 23, 24] (.n (.q (.cd .nl .nl) (.s [1, 3, 5, 6, 13, 14, 15, 22, 23, 24] (.b (.t [1, 3, 5, 6, 7, 8, 13, 14, 15, 22, 23, 24] (.s [1, 3, 5, 6, 8, 13, 14, 15, 22, 23, 24] (.n (.cd .nl .nl)) .nl))) .nl)))))) (.t [1, 3, 5, 6, 13, 14, 15] (.s [1, 3, 6, 13, 14, 15] (.n (.cd .nl .nl)) .nl)))))) .nl)))))) (.n .nl)))))),
 (92, (.n (.q (.n (.cd (.n .nl) .nl)) (.n .nl)))),
 (127, (.n (.t [1, 2, 3] (.s [2, 3] (.n (.v [2, 3] (.lp [1, 2, 3, 14, 15, 16] (.n (.q (.cd .nl .nl) (.s [1, 2, 3, 14, 15, 16] (.v [1, 2, 3, 14, 15, 16] (.t [1, 2, 3, 4, 5, 14, 15, 16] (.n (.v [1, 2, 3, 14, 15, 16] (.lp [1, 2, 3, 4, 14, 15, 16, 22, 23, 24] (.n (.q (.cd .nl .nl) (.s [1, 2, 3, 4, 14, 15, 16, 22, 23, 24] (.v [1, 2, 3, 4, 14, 15, 16, 22, 23, 24] (.n (.t [1, 2, 3, 4, 7, 8, 14, 15, 16, 22, 23, 24] (.t [1, 2, 3, 4, 8, 14, 15, 16, 22, 23, 24, 48] (.cd .nl .nl))))) .nl)))))))) .nl)))))) (.n .nl))))),
 (76, (.n (.s [1, 2] (.n (.n (.cd (.n .nl) .nl))) (.t [2, 5] (.n (.n .nl)))))),
 (97, (.n (.t [1, 2] (.s [1, 2] (.t [1, 2, 13, 14, 15] (.v [1, 2] (.lp [1, 2, 13, 14, 15] (.n (.q (.cd .nl .nl) (.s [1, 2, 13, 14, 15] (.b (.t [1, 2, 3, 4, 13, 14, 15] .nl)) .nl)))))) (.t [1, 2] (.t [1, 2] (.n .nl))))))),
 (106, (.n (.n (.s [1, 2] (.t [1, 2, 10, 11, 12] (.v [1, 2] (.lp [1, 2, 10, 11, 12] (.n (.q (.cd .nl .nl) (.s [1, 2, 10, 11, 12] (.b (.t [1, 2, 3, 4, 10, 11, 12] (.t [1, 2, 3, 4, 5, 10, 11, 12] (.s [1, 2, 3, 10, 11, 12] (.t [1, 2, 3, 10, 11, 12, 47] (.cd .nl .nl)) .nl)))) .nl)))))) (.n (.cd .nl .nl)))))),
 (144, (.n (.n .nl))),
 (108, (.n (.s [] (.b (.t [2, 5] (.cd (.n .nl) (.n (.cd (.n .nl) .nl))))) (.n .nl)))),
 (109, (.n (.s [1, 2, 3] (.n (.n (.cd (.n .nl) .nl))) (.s [] (.t [2, 8] (.t [28] (.cd (.n .nl) .nl))) (.n .nl))))),
 (78, (.n (.s [1, 2, 3, 4, 8] (.n (.n (.cd (.n .nl) .nl))) (.t [1, 2, 3, 4, 8, 11] (.s [1, 2, 3, 4, 8, 11] (.b (.n (.cd (.n .nl) (.t [1, 2, 3, 4, 8, 11, 29] (.cd (.n .nl) .nl))))) (.n (.t [1, 4, 8, 11] (.t [4, 8] (.n .nl))))))))),
 (79, (.n (.s [1, 2, 3, 4, 8] (.t [1, 2, 3, 4, 8, 10] (.n (.cd (.n .nl) .nl))) (.n (.t [4, 8] (.n (.n .nl))))))),
 (107, (.t [0, 2, 6, 7] (.s [0, 6] (.t [0, 2, 6, 7, 28] (.cd (.n .nl) .nl)) (.t [0] .nl)))),
 (80, (.n (.s [1, 3, 4, 8] (.t [1, 3, 4, 8, 10] (.n (.cd (.n .nl) .nl))) (.n (.n (.n .nl)))))),
 (77, (.n (.n (.s [2, 4] (.n (.v [2, 4] (.lp [1, 2, 4, 11, 12] (.n (.q (.cd .nl .nl) (.s [1, 2, 4, 11, 12] (.v [1, 2, 4, 11, 12] (.n (.t [1, 2, 4, 5, 6, 11, 12] (.v [1, 2, 4, 11, 12] (.t [1, 2, 4, 5, 6, 11, 12, 19] (.cd .nl (.t [1, 2, 4, 5, 6, 11, 12, 31] (.cd .nl (.t [1, 2, 4, 6, 11, 12, 40] (.cd .nl .nl)))))))))) .nl)))))) (.n .nl))))),
 (81, (.n (.s [2, 3, 4] (.b (.n (.cd (.n .nl) (.t [2, 3, 4, 11] (.cd (.n .nl) (.t [2, 3, 4, 17] (.cd (.n .nl) .nl))))))) (.n (.t [2, 4] (.n (.n .nl))))))),
 (110, (.n (.n .nl))),
 (145, (.n (.s [0, 1] (.t [0, 1, 12] (.cd (.n .nl) .nl)) (.n (.s [5] (.n (.v [5] (.lp [1, 5, 6] (.s [1, 5, 6] (.t [1, 5, 6, 21] (.cd .nl .nl)) (.q (.b .nl) .nl))))) (.n .nl)))))),
 (50, (.n (.n .nl))),
 (86, (.n (.n .nl))),
 (115, (.n (.s [] (.n (.v [] (.lp [1, 2, 10] (.n (.q (.cd .nl .nl) (.b (.n (.t [1, 2, 7, 10, 19] (.cd (.n .nl) .nl))))))))) (.n .nl)))),
 (48, (.n (.s [] (.n (.b (.n (.cd (.n .nl) (.n (.cd (.n .nl) (.s [3, 8] (.n (.cd .nl .nl)) (.cd (.n .nl) (.n (.cd (.n .nl) (.s [3, 13] (.n (.cd .nl .nl)) (.cd (.n .nl) (.n (.cd (.n .nl) (.n (.cd (.n .nl) .nl)))))))))))))))) (.n .nl)))),
 (87, (.n (.n .nl))),
 (52, (.n (.s [2] (.n (.b (.n (.cd (.n .nl) (.n (.cd (.n .nl) (.n (.cd (.n .nl) (.n (.cd (.n (.s [2, 5] (.n (.cd .nl .nl)) (.n .nl))) (.n (.cd (.n .nl) (.n (.cd (.n .nl) .nl)))))))))))))) (.s [2] (.n (.cd (.n .nl) .nl)) (.n .nl))))),
 (49, (.n (.t [1, 2, 4, 5] (.s [4, 5] (.n (.v [4, 5] (.lp [2, 4, 5, 12] (.n (.q (.cd .nl .nl) (.v [2, 4, 5, 12] (.n (.n (.v [2, 4, 5, 12] (.n (.cd .nl (.n (.cd .nl (.n (.cd .nl (.n (.cd .nl (.n (.cd .nl (.n (.cd .nl (.n (.cd .nl .nl))))))))))))))))))))))) (.n .nl))))),
 (21, (.n (.n (.n .nl)))),
 (51, (.n (.n .nl))),
 (44, (.n (.n .nl))),
 (33, (.n (.s [0, 2, 4] (.t [0, 2, 4, 8, 9] (.n (.cd (.n .nl) .nl))) (.s [0, 2, 4] (.t [0, 2, 4, 30] (.cd (.t [0, 2, 4] .nl) .nl)) (.t [0, 2, 4] (.t [2] (.n .nl))))))),
 (83, (.n (.t [6, 7] (.n .nl)))),
 (32, (.n (.n (.s [3] (.t [0, 3, 9, 10, 11] (.v [3] (.lp [0, 3, 9, 10, 11] (.n (.q (.cd .nl .nl) (.s [0, 3, 9, 10, 11] (.b (.n .nl)) .nl)))))) (.n .nl))))),
 (82, (.n (.s [1, 2] (.n (.cd (.n .nl) .nl)) (.n (.n (.n .nl)))))),
 (58, (.n (.n .nl))),
 (18, (.n (.n .nl))),
 (16, (.n (.q (.n (.cd (.n .nl) .nl)) (.s [0, 3] (.n (.b (.n (.cd (.n .nl) (.n (.cd (.n .nl) (.n (.cd (.n .nl) (.n (.cd (.n .nl) .nl)))))))))) (.s [0, 3] (.t [0, 3, 38] (.cd (.n .nl) .nl)) (.n .nl)))))),
 (40, (.n (.s [0, 1, 2] (.t [0, 1, 2, 8] (.n (.cd (.n .nl) .nl))) (.t [0, 1, 9, 10] (.q (.n (.cd (.n .nl) .nl)) (.s [0, 1, 9] (.t [0, 1, 9, 34] (.cd (.n .nl) .nl)) (.t [0, 1, 9] (.t [] (.n .nl))))))))),
 (41, (.n (.t [0, 3, 5, 6] (.t [0, 3, 5, 6, 8] (.s [0, 3, 5] (.b (.n (.cd (.n .nl) (.t [0, 3, 5, 30] (.cd (.n .nl) (.t [0, 3, 5, 37] (.cd (.n .nl) (.t [0, 3, 5, 44] (.cd (.n .nl) .nl))))))))) (.t [0, 3, 9, 10] (.q (.n (.cd (.n .nl) .nl)) (.t [0, 3] (.s [] (.n (.cd .nl .nl)) (.n .nl)))))))))),
 (42, (.n (.s [0, 1] (.t [0, 1, 11] (.cd (.n .nl) .nl)) (.t [0, 1] (.s [] (.t [0, 1, 20, 21] (.v [] (.lp [0, 1, 20, 21] (.n (.q (.cd .nl .nl) (.s [0, 1, 20, 21] (.b (.n .nl)) .nl)))))) (.n .nl)))))),
 (43, (.n (.t [0, 3, 5] (.n (.n (.s [5, 6, 7] (.n (.v [5, 6, 7] (.n (.cd .nl (.n (.cd .nl (.n (.cd .nl (.n (.cd .nl .nl)))))))))) (.s [7] (.n (.cd .nl .nl)) (.n .nl)))))))),
 (56, (.n (.t [4, 6, 7] (.s [4, 6] (.n (.cd (.n .nl) .nl)) (.t [4, 8] (.n .nl)))))),
 (29, (.n (.n .nl))),
 (46, (.n (.s [0, 1, 4] (.t [0, 1, 4, 18] (.cd (.n .nl) .nl)) (.t [4, 7] (.n .nl))))),
 (45, (.n (.n .nl))),
 (28, (.n (.s [] (.t [13, 14, 15] (.v [] (.lp [13, 14, 15] (.n (.q (.cd .nl .nl) (.s [13, 14, 15] (.v [13, 14, 15] (.t [6, 7, 13, 14, 15] (.t [6, 7, 13, 14, 15, 22, 23, 24] (.v [13, 14, 15] (.lp [6, 7, 13, 14, 15, 22, 23, 24] (.n (.q (.cd .nl .nl) (.s [6, 7, 13, 14, 15, 22, 23, 24] (.b (.t [6, 7, 8, 9, 13, 14, 15, 22, 23, 24] (.t [6, 7, 8, 9, 13, 14, 15, 22, 23, 24, 37] (.cd (.n .nl) .nl)))) .nl)))))))) .nl)))))) (.n .nl)))),
 (13, (.n (.n (.s [3] (.n (.v [3] (.lp [3, 7, 8, 9] (.n (.q (.cd .nl .nl) (.s [3, 7, 8, 9] (.b (.n .nl)) .nl)))))) (.n .nl))))),
 (31, (.n (.q (.n (.cd (.n .nl) .nl)) (.n .nl)))),
 (20, (.n (.s [0, 2, 4, 6, 7] (.n (.v [0, 2, 4, 6, 7] (.n (.cd .nl (.n (.cd (.s [0, 2, 4, 6, 7] (.t [0, 2, 4, 6, 7, 9, 10] (.t [0, 2, 4, 6, 7, 9, 47] (.cd (.n .nl) .nl))) .nl) (.n (.cd (.t [0, 2, 4, 6, 7, 11, 12, 13, 14] (.s [0, 2, 4, 6, 7, 11, 12, 13] (.n (.cd (.n .nl) .nl)) (.t [0, 2, 4, 6, 7, 11, 12, 13, 15] (.t [0, 2, 4, 6, 7, 12, 13, 15] .nl)))) (.n (.cd .nl (.n (.cd .nl (.n (.cd .nl (.n (.cd .nl (.n (.cd .nl (.n (.cd (.s [6, 7] (.t [4, 6, 7, 18] (.n (.cd (.n .nl) .nl))) (.n .nl)) (.n .nl))))))))))))))))))))) (.s [0, 6, 7] (.t [0, 6, 7, 160] (.cd (.n .nl) .nl)) (.s [6, 7] (.t [6, 7, 19] (.n (.cd (.n .nl) .nl))) (.n (.n .nl))))))),
 (47, (.n (.t [5, 6, 7] (.q (.n (.cd (.n .nl) .nl)) (.t [5, 8] (.s [8] (.n (.v [8] (.lp [8, 26, 27, 28] (.n (.q (.cd .nl .nl) (.s [8, 26, 27, 28] (.b (.n .nl)) .nl)))))) (.n .nl))))))),
 (5, (.n (.q (.n (.cd (.n .nl) .nl)) (.s [0, 1] (.t [0, 1, 32] (.cd (.n .nl) .nl)) (.n (.n (.t [1, 5, 6, 7, 9] (.s [1, 5, 6, 7] (.t [1, 5, 6, 7, 50] (.cd (.n .nl) .nl)) (.t [1, 5, 6, 7, 9, 10] (.s [1, 5, 6] (.t [1, 5, 6, 70] (.cd (.n .nl) .nl)) (.s [] (.n (.v [] (.lp [1, 5, 6, 11] (.q (.n (.cd .nl .nl)) (.s [1, 5, 6, 11] (.b (.t [1, 5, 6, 11, 13, 14] (.t [1, 5, 6, 11, 89] (.cd (.n .nl) .nl)))) .nl))))) (.n .nl)))))))))))),
 (14, (.n (.n (.t [0, 3] (.t [0, 3] (.s [0, 3] (.pr [0, 3] (Q5 2 3 0)) (.t [0, 3] (.s [3] (.t [3, 52, 53, 54] (.v [3] (.lp [3, 52, 53, 54] (.n (.q (.cd .nl .nl) (.s [3, 52, 53, 54] (.b (.n .nl)) .nl)))))) (.n .nl))))))))),
 (17, (.n (.n (.t [1, 2, 3, 4] (.n .nl))))),
 (0, .nl)]
noncomputable def an (g:Nat):An:=Jp Re g
noncomputable abbrev cK:CF:=CK P (rH P) ext aQ an
noncomputable def Wk (J:JT)(G:GT)(cf:CF)(a0 a1:AV)(H:Hp):R:=
 B2 (cf (.func (.func 116) [] []) [a0,a1,(.int .i64 0),(.int .i64 (-1))] H) fun v0 h1=>
 some (v0,h1)
theorem aqd {a0 a1:AV}{H:Hp}{r:AV × Hp}(h:Wk JN GO cK a0 a1 H=some r):cK (.func (.func 88) [] []) [a0,a1] H=some r:=aS (first:=[]) (cap:=[]) (aal (by kernel_rfl) h)
noncomputable def KA (J:JT)(G:GT)(cf:CF)(kM:K.Fn 3)(dq:K.Fn 6)(bN cu cG cF cp dD:AV)(gj:Hp):R:=
 B1 (cx dD cF) fun gu=>
 CD gu (
 B2 (cf (.func (.func 151) [] []) [bN,cu] gj) fun v44 nB=>
 B1 (cx v44 (.int .i64 0)) fun v46=>
 CD v46 (
 kM bN cp dD nB) (
 J 7 (fun xI=>
 B1 (bS v44 cG) fun gB=>
 B1 (nJ bN none (some gB)) fun v49=>
 B1 (ia 1 cp dD) fun ij=>
 B1 (st 1 ij v49 nB) fun ml=>
 xI bN cu cG cF cp dD v44 ml) (fun eD eL dU fy cL db dd AS=>
 J 6 (fun N8=>
 B1 (lens eL) fun mR=>
 B1 (bS dd mR) fun gM=>
 B1 (nJ eD (some gM) none) fun v63=>
 N8 v63 eL dU fy cL db AS) (fun fq eO my iA jU mf tW=>
 B1 (bS mf (.int .i64 1)) fun nP=>
 dq fq eO my iA jU nP tW)))) (
 kM bN cp dD gj)
noncomputable def Gx (J:JT)(G:GT)(cf:CF)(kM:K.Fn 3):K.Fn 6:=dZ P an J G cf 116 [1,1,1,1,1,1,1,1,0,0,0] [0,1,2,3,9,10] (fun q t H=>match Nat.beq q 0 with | true=>app 3 kM (ax [0,9,10] t) H | false=>(fun _ _ _=>none) q t H)
theorem acq (J:JT)(G:GT)(cf:CF)(kM:K.Fn 3)(dq:K.Fn 6)(bN cu cG cF cp dD:AV)(gj:Hp):lB P an J G cf 116 [1,1,1,1,1,1,1,1,0,0,0] [0,1,2,3,9,10] (fun q t H=>match Nat.beq q 0 with | true=>app 3 kM (ax [0,9,10] t) H | false=>(fun _ _ _=>none) q t H) dq [bN,cu,cG,cF,cp,dD] gj=KA J G cf kM dq bN cu cG cF cp dD gj:=by kernel_rfl
theorem Vm (cf:CF)(kM:K.Fn 3)(bN cu cG cF cp dD:AV)(gj:Hp):Gx JN GO cf kM bN cu cG cF cp dD gj=KA JN GO cf kM (Gx JN GO cf kM) bN cu cG cF cp dD gj:=aal (b:=app 6 (Gx JN GO cf kM) [bN,cu,cG,cF,cp,dD] gj) (by kernel_rfl) ((eU cf _ _ _ _ [bN,cu,cG,cF,cp,dD] rfl gj).trans (acq JN GO cf kM _ bN cu cG cF cp dD gj))
noncomputable def Nz (J:JT)(G:GT)(cf:CF)(a0 a1 a2 a3:AV)(H:Hp):R:=
 B1 (bF a3 (.int .i64 0)) fun v0=>
 CD v0 (
 some (.ah,H)) (
 J 4 (fun j1=>
 B1 (seq a1 (.str [])) fun v2=>
 CD v2 (
 B2 (cf (.func (.func 149) [] []) [a0,a3] H) fun v3 h4=>
 some (v3,h4)) (
 j1 a0 a1 a2 a3 H)) (fun x5 x6 x7 x8 h9=>
 J 4 (fun aD=>
 B1 (cx x8 (.int .i64 0)) fun v11=>
 CD v11 (
 B2 (cf (.func (.func 150) [] []) [x5,x6] h9) fun v12 iP=>
 B1 (bS v12 (.int .i64 1)) fun cI=>
 aD x5 x6 x7 cI iP) (
 aD x5 x6 x7 x8 h9)) (fun bp bH bW bE cU=>
 J 4 (fun aF=>
 B1 (lens bp) fun v21=>
 B1 (bS v21 (.int .i64 1)) fun v22=>
 B2 (gp P .min #[3,3] [bE,v22] cU) fun v23 jh=>
 aF bp bH bW v23 jh) (fun bB bX bT dh dR=>
 B2 (xp [(.str [])] 9 1 dh dh dR) fun v30 gh=>
 B1 (mI dh (.int .i64 1)) fun v32=>
 J 3 (fun Hq=>
 J 3 (fun kM=>
 Gx J G cf kM bB bX bT v32 v30 (.int .i64 0) gh) (fun sM gY iH rS=>
 Hq sM gY iH rS)) (fun gC fc fe iJ=>
 J 2 (fun j80=>
 B1 (ia 1 fc fe) fun pW=>
 B1 (st 1 pW gC iJ) fun vE=>
 j80 fc fe vE) (fun mB pt qm=>
 B1 (bS pt (.int .i64 1)) fun vn=>
 B1 (qi 1 mB none (some vn) none) fun v87=>
 some (v87,qm)))))))
theorem aqf (J:JT)(G:GT)(cf:CF)(a0 a1 a2 a3:AV)(H:Hp):fK P J G aQ an cf 116 [a0,a1,a2,a3] H=Nz J G cf a0 a1 a2 a3 H:=by kernel_rfl
theorem afg {a0 a1 a2 a3:AV}{H:Hp}{r:AV × Hp}(h:Nz JN GO cK a0 a1 a2 a3 H=some r):cK (.func (.func 116) [] []) [a0,a1,a2,a3] H=some r:=aS (first:=[]) (cap:=[]) ((aqf JN GO _ a0 a1 a2 a3 H).trans h)
noncomputable def ad8 (J:JT)(G:GT)(cf:CF)(fZ:K.Fn 1):K.Fn 3:=dZ P an J G cf 150 [1,1,1,1,0,0] [0,1,5] (fun q t H=>match Nat.beq q 0 with | true=>app 1 fZ (ax [4] t) H | false=>(fun _ _ _=>none) q t H)
noncomputable def YW (J:JT)(G:GT)(cf:CF)(a0 a1:AV)(H:Hp):R:=
 J 2 (fun j0=>
 B1 (lens a1) fun v1=>
 B1 (bF v1 (.int .i64 0)) fun v2=>
 CD v2 (
 B2 (cf (.func (.func 170) [] []) [a0] H) fun v3 h4=>
 B1 (bS v3 (.int .i64 1)) fun v5=>
 some (v5,h4)) (
 j0 a0 a1 H)) (fun x6 x7 h8=>
 J 2 (fun j9=>
 B1 (lens x7) fun v10=>
 B1 (bF v10 (.int .i64 1)) fun v11=>
 CD v11 (
 B1 (uO x7 (.int .i64 0)) fun v12=>
 B2 (cf (.func (.func 171) [] []) [x6,v12] h8) fun dN ie=>
 some (dN,ie)) (
 j9 x6 x7 h8)) (fun bp bH dI=>
 J 1 (fun fZ=>
 ad8 J G cf fZ bp bH (.int .i64 0) dI) (fun bZ eF=>
 some (bZ,eF))))
theorem an2 {a0 a1:AV}{H:Hp}{r:AV × Hp}(h:YW JN GO cK a0 a1 H=some r):cK (.func (.func 150) [] []) [a0,a1] H=some r:=aS (first:=[]) (cap:=[]) (aal (by kernel_rfl) h)
noncomputable def VT (J:JT)(G:GT)(cf:CF)(a0 a1:AV)(H:Hp):R:=
 B2 (cf (.func (.func 172) [] []) [a0,a1] H) fun v0 h1=>
 some (v0,h1)
theorem akn {a0 a1:AV}{H:Hp}{r:AV × Hp}(h:VT JN GO cK a0 a1 H=some r):cK (.func (.func 151) [] []) [a0,a1] H=some r:=aS (first:=[]) (cap:=[]) (aal (by kernel_rfl) h)
noncomputable def VX (J:JT)(G:GT)(cf:CF)(a0 a1:AV)(H:Hp):R:=
 B2 (cf (.func (.func 152) [] []) [a0,a1] H) fun v0 h1=>
 B1 (ex 0 v0) fun v2=>
 B1 (ex 1 v0) fun v3=>
 B1 (ex 2 v0) fun v4=>
 some (.tuple [v2,v3,v4],h1)
theorem ais {a0 a1:AV}{H:Hp}{r:AV × Hp}(h:VX JN GO cK a0 a1 H=some r):cK (.func (.func 117) [] []) [a0,a1] H=some r:=aS (first:=[]) (cap:=[]) (aal (by kernel_rfl) h)
noncomputable def I0 (J:JT)(G:GT)(cf:CF)(oQ:K.Fn 3)(wD:K.Fn 6)(dD eI dP iK fC iM:AV)(ka:Hp):R:=
 B1 (cx iM fC) fun gB=>
 CD gB (
 J 6 (fun j49=>
 B1 (ia 1 iK iM) fun ij=>
 B1 (ld ij ka) fun v51=>
 J 7 (fun j52=>
 J 8 (fun Qp=>
 B1 (lens v51) fun iy=>
 B1 (mI (.int .i64 9223372036854775807) dP) fun jD=>
 B1 (mU iy jD) fun kU=>
 Qp dD eI dP v51 iK fC iM kU ka) (fun db dd cJ eR dK jH jB fq mL=>
 CD fq (
 none) (
 j52 db dd cJ eR dK jH jB mL))) (fun my iA jU mf lW sF sM IZ=>
 B1 (lens mf) fun jO=>
 B1 (bS jU jO) fun v75=>
 j49 my iA v75 lW sF sM IZ)) (fun gC fc fe pF nq qI vE=>
 B1 (bS qI (.int .i64 1)) fun pQ=>
 wD gC fc fe pF nq pQ vE)) (
 oQ dD eI dP ka)
noncomputable def Gy (J:JT)(G:GT)(cf:CF)(oQ:K.Fn 3):K.Fn 6:=dZ P an J G cf 85 [1,1,1,1,0,1,0,0] [0,1,5,39,40,41] (fun q t H=>match Nat.beq q 1 with | true=>app 3 oQ (ax [0,1,5] t) H | false=>(fun _ _ _=>none) q t H)
theorem aem (J:JT)(G:GT)(cf:CF)(oQ:K.Fn 3)(wD:K.Fn 6)(dD eI dP iK fC iM:AV)(ka:Hp):lB P an J G cf 85 [1,1,1,1,0,1,0,0] [0,1,5,39,40,41] (fun q t H=>match Nat.beq q 1 with | true=>app 3 oQ (ax [0,1,5] t) H | false=>(fun _ _ _=>none) q t H) wD [dD,eI,dP,iK,fC,iM] ka=I0 J G cf oQ wD dD eI dP iK fC iM ka:=by kernel_rfl
theorem Zs (cf:CF)(oQ:K.Fn 3)(dD eI dP iK fC iM:AV)(ka:Hp):Gy JN GO cf oQ dD eI dP iK fC iM ka=I0 JN GO cf oQ (Gy JN GO cf oQ) dD eI dP iK fC iM ka:=aal (b:=app 6 (Gy JN GO cf oQ) [dD,eI,dP,iK,fC,iM] ka) (by kernel_rfl) ((eU cf _ _ _ _ [dD,eI,dP,iK,fC,iM] rfl ka).trans (aem JN GO cf oQ _ dD eI dP iK fC iM ka))
noncomputable def Q8 (J:JT)(G:GT)(cf:CF)(vl:K.Fn 1)(aqc:K.Fn 5)(xZ sd nh mC gP:AV)(po:Hp):R:=
 B1 (cx gP mC) fun Ex=>
 CD Ex (
 J 5 (fun acH=>
 B1 (ia 1 nh gP) fun zr=>
 B1 (ld zr po) fun xt=>
 B2 (cf (.func (.func 113) [] []) [sd,xZ] po) fun vu Bv=>
 B2 (cf (.func (.func 113) [] []) [sd,xt] Bv) fun v117 Fl=>
 acH xZ sd nh mC gP Fl) (fun uQ sf sA ug xd xU=>
 B1 (bS xd (.int .i64 1)) fun vO=>
 aqc uQ sf sA ug vO xU)) (
 vl sd po)
noncomputable def Fb (J:JT)(G:GT)(cf:CF)(vl:K.Fn 1):K.Fn 5:=dZ P an J G cf 85 [1,1,1,1,1,1,1,1,0,1,0,0] [1,8,63,64,65] (fun q t H=>match Nat.beq q 3 with | true=>app 1 vl (ax [8] t) H | false=>(fun _ _ _=>none) q t H)
theorem Yf (cf:CF)(vl:K.Fn 1)(xZ sd nh mC gP:AV)(po:Hp):Fb JN GO cf vl xZ sd nh mC gP po=Q8 JN GO cf vl (Fb JN GO cf vl) xZ sd nh mC gP po:=aal (b:=app 5 (Fb JN GO cf vl) [xZ,sd,nh,mC,gP] po) (by kernel_rfl) ((eU cf 85 [1,1,1,1,1,1,1,1,0,1,0,0] [1,8,63,64,65] _ [xZ,sd,nh,mC,gP] rfl po).trans (by kernel_rfl))
noncomputable def G5 (J:JT)(G:GT)(cf:CF)(a0 a1:AV)(H:Hp):R:=
 J 2 (fun j0=>
 B1 (bq a0) fun v1=>
 B1 (bF v1 (.int .i64 0)) fun v2=>
 CD v2 (
 some ((.str []),H)) (
 B1 (bF v1 (.int .i64 1)) fun v3=>
 CD v3 (
 B1 (ia 1 a0 (.int .i64 0)) fun v4=>
 B1 (ld v4 H) fun v5=>
 some (v5,H)) (
 j0 a0 a1 H))) (fun x6 x7 h8=>
 J 3 (fun j9=>
 B1 (lens x7) fun v10=>
 B1 (mU v10 (.int .i64 0)) fun v11=>
 CD v11 (
 J 3 (fun cH=>
 J 4 (fun eN=>
 B1 (lens x7) fun cI=>
 B1 (bq x6) fun gE=>
 B1 (mI gE (.int .i64 1)) fun c8=>
 B1 (AW (.int .i64 9223372036854775807) c8) fun eH=>
 B1 (lS cI eH) fun dy=>
 eN x6 x7 (.int .i64 0) dy h8) (fun df cY aU aN cB=>
 CD aN (
 none) (
 cH df cY aU cB))) (fun bC bB bX eQ=>
 B1 (lens bB) fun v28=>
 B1 (bq bC) fun v29=>
 B1 (mI v29 (.int .i64 1)) fun v30=>
 B1 (u9 v28 v30) fun v31=>
 B1 (bS bX v31) fun v32=>
 j9 bC bB v32 eQ)) (
 j9 x6 x7 (.int .i64 0) h8)) (fun cw bM dG na=>
 J 3 (fun HM=>
 B1 (bq cw) fun jK=>
 J 3 (fun oQ=>
 Gy J G cf oQ cw bM dG cw jK (.int .i64 0) na) (fun pt oX pG tD=>
 HM pt oX pG tD)) (fun nf yJ G3 wo=>
 BN (aE wo [.fD,.ah] 180 0) fun i92 h93=>
 B2 (cf (.func (.func 112) [] []) [(.ptr i92 0),G3] h93) fun xf qh=>
 B1 (ia 1 nf (.int .i64 0)) fun qE=>
 B1 (ld qE qh) fun GI=>
 B2 (cf (.func (.func 113) [] []) [(.ptr i92 0),GI] qh) fun IW GJ=>
 J 1 (fun amU=>
 B1 (qi 1 nf (some (.int .i64 1)) none none) fun vm=>
 B1 (bq vm) fun rG=>
 J 1 (fun vl=>
 Fb J G cf vl yJ (.ptr i92 0) vm rG (.int .i64 0) GJ) (fun jI Ru=>
 amU jI Ru)) (fun iu NB=>
 B2 (cf (.func (.func 114) [] []) [iu] NB) fun v130 C9=>
 some (v130,C9)))))
theorem anX (J:JT)(G:GT)(cf:CF)(a0 a1:AV)(H:Hp):fK P J G aQ an cf 85 [a0,a1] H=G5 J G cf a0 a1 H:=by kernel_rfl
theorem PE {a0 a1:AV}{H:Hp}{r:AV × Hp}(h:G5 JN GO cK a0 a1 H=some r):cK (.func (.func 85) [] []) [a0,a1] H=some r:=aS (first:=[]) (cap:=[]) ((anX JN GO _ a0 a1 H).trans h)
noncomputable def aek (J:JT)(G:GT)(cf:CF)(LM:K.Fn 0):K.Fn 8:=dZ P an J G cf 172 [1,1,1,1,1,1,1,1,0,0,0] [0,1,5,6,7,8,9,10] (fun q t H=>match Nat.beq q 1 with | true=>app 0 LM (ax [] t) H | false=>(fun _ _ _=>none) q t H)
noncomputable def N0 (J:JT)(G:GT)(cf:CF)(a0 a1:AV)(H:Hp):R:=
 B1 (lens a1) fun v0=>
 J 3 (fun j1=>
 J 4 (fun j2=>
 B1 (bF v0 (.int .i64 0)) fun v3=>
 G v3 false (fun k4=>
 k4 a1 H) (fun v5 h6=>
 G v3 false (fun k7=>
 k7 a0 h6) (fun v8 h9=>
 G v3 false (fun Aj=>
 B1 (seq v5 v8) fun v11=>
 Aj v11 h9) (fun v12 iP=>
 B1 (pk v3 (.bool true) v12) fun cI=>
 j2 a0 a1 v0 cI iP) h9) h6) H) (fun bp bH bW bE cU=>
 CD bE (
 some ((.int .i64 0),cU)) (
 B1 (bF bW (.int .i64 1)) fun v20=>
 CD v20 (
 B1 (uO bH (.int .i64 0)) fun v21=>
 B2 (cf (.func (.func 186) [] []) [bp,v21] cU) fun v22 cB=>
 some (v22,cB)) (
 J 4 (fun HZ=>
 B1 (lens bp) fun v25=>
 B1 (lS bW v25) fun v26=>
 HZ bp bH bW v26 cU) (fun bT dh eK dE gh=>
 CD dE (
 some ((.int .i64 (-1)),gh)) (
 J 4 (fun gm=>
 B1 (ld (.ptr 1 0) gh) fun fM=>
 B1 (oh eK fM) fun dJ=>
 G dJ true (fun A9=>
 A9 bT gh) (fun v36 iw=>
 G dJ true (fun xq=>
 B1 (lens v36) fun eM=>
 xq eM iw) (fun v40 gR=>
 G dJ true (fun k42=>
 B1 (oh v40 (.int .i64 64)) fun gu=>
 k42 gu gR) (fun v44 nB=>
 B1 (pk dJ v44 (.bool false)) fun v46=>
 gm bT dh eK v46 nB) gR) iw) gh) (fun fQ fF fS gK ml=>
 CD gK (
 B2 (cf (.func (.func 187) [] []) [fQ,fF] ml) fun iG ir=>
 some (iG,ir)) (
 j1 fQ fF fS ml)))))))) (fun dU fy cL jv=>
 B1 (uO fy (.int .i64 0)) fun lN=>
 B1 (uO fy (.int .i64 1)) fun v59=>
 J 7 (fun N8=>
 B1 (lens dU) fun mR=>
 B1 (mI mR cL) fun gM=>
 B1 (bS gM (.int .i64 1)) fun v63=>
 N8 dU fy cL lN v59 (.int .i64 0) v63 jv) (fun fq eO my iA jU mf lW kT=>
 J 0 (fun tv=>
 J 0 (fun LM=>
 aek J G cf LM fq eO my iA jU mf lW (.int .i64 0) kT) (fun  adU=>
 tv  adU)) (fun  aqa=>
 some ((.int .i64 (-1)),aqa))))
theorem apY (J:JT)(G:GT)(cf:CF)(a0 a1:AV)(H:Hp):fK P J G aQ an cf 172 [a0,a1] H=N0 J G cf a0 a1 H:=by kernel_rfl
theorem apm {a0 a1:AV}{H:Hp}{r:AV × Hp}(h:N0 JN GO cK a0 a1 H=some r):cK (.func (.func 172) [] []) [a0,a1] H=some r:=aS (first:=[]) (cap:=[]) ((apY JN GO _ a0 a1 H).trans h)
noncomputable def UJ (J:JT)(G:GT)(cf:CF)(a0 a1:AV)(H:Hp):R:=
 B2 (cf (.func (.func 197) [] []) [a0,a1] H) fun v0 h1=>
 some (v0,h1)
theorem ajL {a0 a1:AV}{H:Hp}{r:AV × Hp}(h:UJ JN GO cK a0 a1 H=some r):cK (.func (.func 186) [] []) [a0,a1] H=some r:=aS (first:=[]) (cap:=[]) (aal (by kernel_rfl) h)
noncomputable def abg (J:JT)(G:GT)(cf:CF)(a0 a1:AV)(H:Hp):R:=
 J 1 (fun j0=>
 B2 (cf (.func (.func 172) [] []) [a0,a1] H) fun v1 h2=>
 B1 (lS v1 (.int .i64 0)) fun v3=>
 CD v3 (
 B1 (nJ a0 none (some v1)) fun v4=>
 B1 (lens a1) fun v5=>
 B1 (bS v1 v5) fun v6=>
 B1 (nJ a0 (some v6) none) fun v7=>
 some (.tuple [v4,v7,(.bool true)],h2)) (
 j0 a0 h2)) (fun x8 h9=>
 some (.tuple [x8,(.str []),(.bool false)],h9))
theorem ag9 {a0 a1:AV}{H:Hp}{r:AV × Hp}(h:abg JN GO cK a0 a1 H=some r):cK (.func (.func 152) [] []) [a0,a1] H=some r:=aS (first:=[]) (cap:=[]) (aal (by kernel_rfl) h)
noncomputable def Wv (J:JT)(G:GT)(cf:CF)(a0 a1:AV)(H:Hp):R:=
 B2 (cf (.func (.func 147) [] []) [a0] H) fun v0 h1=>
 J 2 (fun j2=>
 B1 (cx a1 (.int .i64 0)) fun v3=>
 CD v3 (
 none) (
 j2 a0 a1 h1)) (fun x4 x5 h6=>
 J 3 (fun j7=>
 B1 (aV x4) fun v8=>
 B1 (fa 1 v8) fun v9=>
 B1 (ld v9 h6) fun v10=>
 B2 (gp P .cap #[52] [v10] h6) fun v11 dT=>
 B1 (aV x4) fun dN=>
 B1 (fa 1 dN) fun cI=>
 B1 (ld cI h6) fun gE=>
 B1 (bq gE) fun c8=>
 B1 (mI v11 c8) fun eH=>
 B1 (cx eH x5) fun dy=>
 j7 x4 x5 dy h6) (fun df cY aU lR=>
 CD aU (
 B2 (cf (.func (.func 148) [] []) [df,cY] lR) fun v23 jh=>
 some (.tuple [],jh)) (
 some (.tuple [],lR))))
theorem apJ {a0 a1:AV}{H:Hp}{r:AV × Hp}(h:Wv JN GO cK a0 a1 H=some r):cK (.func (.func 112) [] []) [a0,a1] H=some r:=aS (first:=[]) (cap:=[]) (aal (by kernel_rfl) h)
noncomputable def aaH (J:JT)(G:GT)(cf:CF)(a0 a1:AV)(H:Hp):R:=
 B2 (cf (.func (.func 147) [] []) [a0] H) fun v0 h1=>
 J 1 (fun j2=>
 B1 (aV a0) fun v3=>
 B1 (fa 1 v3) fun v4=>
 B1 (ld v4 h1) fun v5=>
 B2 (gg 5 1 [(.int .u8 0)] false v5 a1 h1) fun v6 h7=>
 B1 (aV a0) fun v8=>
 B1 (fa 1 v8) fun v9=>
 B1 (st 1 v9 v6 h7) fun bU=>
 j2 a1 bU) (fun bG dT=>
 B1 (lens bG) fun dN=>
 some (.tuple [dN,.nilIface],dT))
theorem afQ {a0 a1:AV}{H:Hp}{r:AV × Hp}(h:aaH JN GO cK a0 a1 H=some r):cK (.func (.func 113) [] []) [a0,a1] H=some r:=aS (first:=[]) (cap:=[]) (aal (by kernel_rfl) h)
noncomputable def aa7 (J:JT)(G:GT)(cf:CF)(a0:AV)(H:Hp):R:=
 B1 (aV a0) fun v0=>
 B1 (fa 1 v0) fun v1=>
 B1 (ld v1 H) fun v2=>
 B2 (gp P .unsafeSliceData #[52] [v2] H) fun v3 h4=>
 B1 (aV a0) fun v5=>
 B1 (fa 1 v5) fun v6=>
 B1 (ld v6 h4) fun v7=>
 B1 (bq v7) fun v8=>
 B2 (gp P .unsafeString #[222,3] [v3,v8] h4) fun v9 bU=>
 B1 (ld v6 H) fun v11=>
 SM v7 v11 <|
 B1 (bq v7) fun v12=>
 SM v8 v12 <|
 some (v9,bU)
theorem adW {a0:AV}{H:Hp}{r:AV × Hp}(h:aa7 JN GO cK a0 H=some r):cK (.func (.func 114) [] []) [a0] H=some r:=aS (first:=[]) (cap:=[]) (aal (by kernel_rfl) h)
noncomputable def Ni (J:JT)(G:GT)(cf:CF)(a0:AV)(H:Hp):R:=
 J 2 (fun j0=>
 B1 (aV a0) fun v1=>
 B1 (fa 0 v1) fun v2=>
 B1 (ld v2 H) fun v3=>
 B1 (Cj .eql (pe v3 .fD H)) fun v4=>
 j0 a0 v4 H) (fun x5 x6 h7=>
 CD x6 (
 B2 (jr P 178 242 x5 h7) fun v8 h9=>
 B2 (cf (.func (.func 168) [] []) [v8] h9) fun v10 gU=>
 B2 (jr P 242 178 v10 gU) fun v12 iP=>
 B1 (aV x5) fun cI=>
 B1 (fa 0 cI) fun gE=>
 B1 (st 1 gE v12 iP) fun bD=>
 some (.tuple [],bD)) (
 J 1 (fun nI=>
 B1 (aV x5) fun dy=>
 B1 (fa 0 dy) fun gW=>
 B1 (ld gW h7) fun v20=>
 B1 (Cj .neq (pe v20 x5 h7)) fun v21=>
 nI v21 h7) (fun aN cB=>
 CD aN (
 none) (
 some (.tuple [],cB)))))
theorem Zx {a0:AV}{H:Hp}{r:AV × Hp}(h:Ni JN GO cK a0 H=some r):cK (.func (.func 147) [] []) [a0] H=some r:=aS (first:=[]) (cap:=[]) (aal (by kernel_rfl) h)
noncomputable def Xn (J:JT)(G:GT)(cf:CF)(a0 a1:AV)(H:Hp):R:=
 J 2 (fun j0=>
 B1 (aV a0) fun v1=>
 B1 (fa 1 v1) fun v2=>
 B1 (ld v2 H) fun v3=>
 B2 (gp P .cap #[52] [v3] H) fun v4 h5=>
 B1 (u9 (.int .i64 2) v4) fun v6=>
 B1 (bS v6 a1) fun v7=>
 B2 (cf (.func (.func 169) [] []) [v7] H) fun v8 h9=>
 B1 (aV a0) fun v10=>
 B1 (fa 1 v10) fun v11=>
 B1 (ld v11 h9) fun v12=>
 B1 (bq v12) fun dN=>
 B1 (qi 1 v8 none (some dN) none) fun cI=>
 B1 (ld v11 H) fun gE=>
 SM v12 gE <|
 B1 (bq v12) fun c8=>
 SM dN c8 <|
 j0 a0 cI h9) (fun bW bE cU=>
 J 2 (fun aF=>
 B1 (aV bW) fun v21=>
 B1 (fa 1 v21) fun v22=>
 B1 (ld v22 cU) fun v23=>
 B2 (BR 1 bE v23 cU) fun v24 dC=>
 aF bW bE dC) (fun bX bT gH=>
 B1 (aV bX) fun v29=>
 B1 (fa 1 v29) fun v30=>
 B1 (st 1 v30 bT gH) fun gh=>
 some (.tuple [],gh)))
theorem apa {a0 a1:AV}{H:Hp}{r:AV × Hp}(h:Xn JN GO cK a0 a1 H=some r):cK (.func (.func 148) [] []) [a0,a1] H=some r:=aS (first:=[]) (cap:=[]) (aal (by kernel_rfl) h)
noncomputable def Zb (J:JT)(G:GT)(cf:CF)(a0:AV)(H:Hp):R:=
 B2 (cf (.func (.func 111) [] []) [a0] H) fun v0 h1=>
 some (v0,h1)
theorem alw {a0:AV}{H:Hp}{r:AV × Hp}(h:Zb JN GO cK a0 H=some r):cK (.func (.func 84) [] []) [a0] H=some r:=aS (first:=[]) (cap:=[]) (aal (by kernel_rfl) h)
noncomputable def SY (J:JT)(G:GT)(cf:CF)(a0:AV)(H:Hp):R:=
 B2 (cf (.func (.func 146) [] []) [a0,(.int .i64 10)] H) fun v0 h1=>
 some (v0,h1)
theorem ah1 {a0:AV}{H:Hp}{r:AV × Hp}(h:SY JN GO cK a0 H=some r):cK (.func (.func 111) [] []) [a0] H=some r:=aS (first:=[]) (cap:=[]) (aal (by kernel_rfl) h)
noncomputable def E9 (J:JT)(G:GT)(cf:CF)(a0 a1:AV)(H:Hp):R:=
 J 2 (fun j0=>
 B1 (bF a1 (.int .i64 10)) fun v1=>
 CD v1 (
 J 1 (fun j2=>
 J 2 (fun j3=>
 B1 (oh (.int .i64 0) a0) fun v4=>
 G v4 true (fun k5=>
 k5 a0 H) (fun v6 h7=>
 G v4 true (fun k8=>
 B1 (cx v6 (.int .i64 100)) fun v9=>
 k8 v9 h7) (fun v10 gU=>
 B1 (pk v4 v10 (.bool false)) fun v12=>
 j3 a0 v12 gU) h7) H) (fun ba bf eV=>
 CD bf (
 B2 (cf (.func (.func 164) [] []) [ba] eV) fun c8 dI=>
 some (c8,dI)) (
 j2 ba eV))) (fun bE cU=>
 BN (aE cU [(.int .u8 0),(.int .u8 0),(.int .u8 0),(.int .u8 0),(.int .u8 0),(.int .u8 0),(.int .u8 0),(.int .u8 0),(.int .u8 0),(.int .u8 0),(.int .u8 0),(.int .u8 0),(.int .u8 0),(.int .u8 0),(.int .u8 0),(.int .u8 0),(.int .u8 0),(.int .u8 0),(.int .u8 0),(.int .u8 0),(.int .u8 0),(.int .u8 0),(.int .u8 0),(.int .u8 0)] 238 0) fun i20 lg=>
 B1 (cv .u64 bE) fun v22=>
 J 3 (fun eZ=>
 B1 (cx bE (.int .i64 0)) fun v24=>
 CD v24 (
 B1 (fX .neg v22) fun v25=>
 eZ bE (.ptr i20 0) v25 lg) (
 eZ bE (.ptr i20 0) v22 lg)) (fun bX bT dh dR=>
 B2 (cf (.func (.func 165) [] []) [dh] dR) fun v30 gh=>
 J 3 (fun gm=>
 B1 (bS (.int .i64 1) v30) fun fM=>
 B1 (qQ P 238 bT (some (.int .i64 1)) (some fM) none gh) fun dJ=>
 B2 (cf (.func (.func 166) [] []) [dJ,dh] gh) fun v35 na=>
 gm bX bT v30 na) (fun cu cG cF kB=>
 J 2 (fun Q7=>
 B1 (cx cu (.int .i64 0)) fun fw=>
 CD fw (
 B1 (nj 24 1 cG (.int .i64 0)) fun gu=>
 B1 (st 1 gu (.int .u8 45) kB) fun ef=>
 B1 (bS (.int .i64 1) cF) fun fB=>
 B1 (qQ P 238 cG none (some fB) none ef) fun v46=>
 B1 (Ds v46 ef) fun je=>
 some (je,ef)) (
 Q7 cG cF kB)) (fun fF fS mY=>
 B1 (bS (.int .i64 1) fS) fun v51=>
 B1 (qQ P 238 fF (some (.int .i64 1)) (some v51) none mY) fun iG=>
 B1 (Ds iG mY) fun v53=>
 some (v53,mY)))))) (
 j0 a0 a1 H)) (fun dU fy nL=>
 J 1 (fun Hf=>
 B1 (cv .u64 dU) fun lN=>
 B1 (cx dU (.int .i64 0)) fun v59=>
 B2 (cf (.func (.func 167) [] []) [.ah,lN,fy,v59,(.bool false)] nL) fun fW gD=>
 B1 (ex 0 fW) fun gM=>
 B1 (ex 1 fW) fun v63=>
 Hf v63 gD) (fun fq mL=>
 some (fq,mL)))
theorem apz (J:JT)(G:GT)(cf:CF)(a0 a1:AV)(H:Hp):fK P J G aQ an cf 146 [a0,a1] H=E9 J G cf a0 a1 H:=by kernel_rfl
theorem QF {a0 a1:AV}{H:Hp}{r:AV × Hp}(h:E9 JN GO cK a0 a1 H=some r):cK (.func (.func 146) [] []) [a0,a1] H=some r:=aS (first:=[]) (cap:=[]) ((apz JN GO _ a0 a1 H).trans h)
noncomputable def Qs (J:JT)(G:GT)(cf:CF)(a0:AV)(H:Hp):R:=
 J 1 (fun j0=>
 B1 (cx a0 (.int .i64 10)) fun v1=>
 CD v1 (
 B1 (bS a0 (.int .i64 1)) fun v2=>
 B1 (nJ (.str [48,49,50,51,52,53,54,55,56,57,97,98,99,100,101,102,103,104,105,106,107,108,109,110,111,112,113,114,115,116,117,118,119,120,121,122]) (some a0) (some v2)) fun v3=>
 some (v3,H)) (
 j0 a0 H)) (fun x4 h5=>
 B1 (u9 x4 (.int .i64 2)) fun v6=>
 B1 (u9 x4 (.int .i64 2)) fun v7=>
 B1 (bS v7 (.int .i64 2)) fun v8=>
 B1 (nJ (.str [48,48,48,49,48,50,48,51,48,52,48,53,48,54,48,55,48,56,48,57,49,48,49,49,49,50,49,51,49,52,49,53,49,54,49,55,49,56,49,57,50,48,50,49,50,50,50,51,50,52,50,53,50,54,50,55,50,56,50,57,51,48,51,49,51,50,51,51,51,52,51,53,51,54,51,55,51,56,51,57,52,48,52,49,52,50,52,51,52,52,52,53,52,54,52,55,52,56,52,57,53,48,53,49,53,50,53,51,53,52,53,53,53,54,53,55,53,56,53,57,54,48,54,49,54,50,54,51,54,52,54,53,54,54,54,55,54,56,54,57,55,48,55,49,55,50,55,51,55,52,55,53,55,54,55,55,55,56,55,57,56,48,56,49,56,50,56,51,56,52,56,53,56,54,56,55,56,56,56,57,57,48,57,49,57,50,57,51,57,52,57,53,57,54,57,55,57,56,57,57]) (some v6) (some v8)) fun v9=>
 some (v9,h5))
theorem alB (J:JT)(G:GT)(cf:CF)(a0:AV)(H:Hp):fK P J G aQ an cf 164 [a0] H=Qs J G cf a0 H:=by kernel_rfl
theorem agA {a0:AV}{H:Hp}{r:AV × Hp}(h:Qs JN GO cK a0 H=some r):cK (.func (.func 164) [] []) [a0] H=some r:=aS (first:=[]) (cap:=[]) ((alB JN GO _ a0 H).trans h)
noncomputable def Zp (J:JT)(G:GT)(cf:CF)(a0:AV)(H:Hp):R:=
 B2 (cf (.func (.func 182) [] []) [a0] H) fun v0 h1=>
 B2 (cf (.func (.func 181) [] []) [v0] h1) fun v2 h3=>
 B1 (nj 20 1 (.ptr 0 0) v2) fun v4=>
 B1 (ld v4 h3) fun v5=>
 B1 (lS a0 v5) fun v6=>
 B2 (cf (.func (.func 183) [] []) [v6] h3) fun v7 h8=>
 B1 (bS v2 v7) fun v9=>
 some (v9,h8)
theorem adt {a0:AV}{H:Hp}{r:AV × Hp}(h:Zp JN GO cK a0 H=some r):cK (.func (.func 165) [] []) [a0] H=some r:=aS (first:=[]) (cap:=[]) (aal (by kernel_rfl) h)
noncomputable def Wr (J:JT)(G:GT)(cf:CF)(a0:AV)(H:Hp):R:=
 B1 (u9 a0 (.int .i64 78913)) fun v0=>
 B1 (Al v0 (.int .u64 18)) fun v1=>
 some (v1,H)
theorem ak2 {a0:AV}{H:Hp}{r:AV × Hp}(h:Wr JN GO cK a0 H=some r):cK (.func (.func 181) [] []) [a0] H=some r:=aS (first:=[]) (cap:=[]) (aal (by kernel_rfl) h)
noncomputable def O5 (J:JT)(G:GT)(cf:CF)(a0:AV)(H:Hp):R:=
 CD a0 (
 some ((.int .i64 1),H)) (
 some ((.int .i64 0),H))
theorem abx {a0:AV}{H:Hp}{r:AV × Hp}(h:O5 JN GO cK a0 H=some r):cK (.func (.func 183) [] []) [a0] H=some r:=aS (first:=[]) (cap:=[]) (aal (by kernel_rfl) h)
noncomputable def Ng (J:JT)(G:GT)(cf:CF)(j2:K.Fn 0)(j3:K.Fn 4)(x4 x5 x6 x7:AV)(h8:Hp):R:=
 B1 (cx x7 x6) fun v9=>
 CD v9 (
 J 4 (fun aD=>
 J 6 (fun lD=>
 B1 (ia 1 x4 x7) fun v12=>
 B1 (ld v12 h8) fun dN=>
 B1 (seq x5 dN) fun cI=>
 lD x4 x5 x7 x6 x7 cI h8) (fun bp bH bW bE df cY lg=>
 CD cY (
 some (bW,lg)) (
 aD bp bH bE df lg))) (fun aN bc bC bB dW=>
 B1 (bS bB (.int .i64 1)) fun v27=>
 j3 aN bc bC v27 dW)) (
 j2  h8)
noncomputable def GN (J:JT)(G:GT)(cf:CF)(j2:K.Fn 0):K.Fn 4:=dZ P an J G cf 104 [1,0,1,0,0] [0,1,7,8] (fun q t H=>match Nat.beq q 0 with | true=>app 0 j2 (ax [] t) H | false=>(fun _ _ _=>none) q t H)
theorem UQ (cf:CF)(j2:K.Fn 0)(x4 x5 x6 x7:AV)(h8:Hp):GN JN GO cf j2 x4 x5 x6 x7 h8=Ng JN GO cf j2 (GN JN GO cf j2) x4 x5 x6 x7 h8:=aal (b:=app 4 (GN JN GO cf j2) [x4,x5,x6,x7] h8) (by kernel_rfl) ((eU cf 104 [1,0,1,0,0] [0,1,7,8] _ [x4,x5,x6,x7] rfl h8).trans (by kernel_rfl))
noncomputable def TD (J:JT)(G:GT)(cf:CF)(a0 a1:AV)(H:Hp):R:=
 J 0 (fun j0=>
 B1 (bq a0) fun v1=>
 J 0 (fun j2=>
 GN J G cf j2 a0 a1 v1 (.int .i64 0) H) (fun  gH=>
 j0  gH)) (fun  dR=>
 some ((.int .i64 (-1)),dR))
theorem afz {a0 a1:AV}{H:Hp}{r:AV × Hp}(h:TD JN GO cK a0 a1 H=some r):cK (.func (.func 104) [] []) [a0,a1] H=some r:=aS (first:=[]) (cap:=[]) (aal (by kernel_rfl) h)
noncomputable def Vy (J:JT)(G:GT)(cf:CF)(a0 a1:AV)(H:Hp):R:=
 B2 (cf (.func (.func 104) [] []) [a0,a1] H) fun v0 h1=>
 B1 (lS v0 (.int .i64 0)) fun v2=>
 some (v2,h1)
theorem aoV {a0 a1:AV}{H:Hp}{r:AV × Hp}(h:Vy JN GO cK a0 a1 H=some r):cK (.func (.func 94) [] []) [a0,a1] H=some r:=aS (first:=[]) (cap:=[]) (aal (by kernel_rfl) h)
noncomputable def Ry (J:JT)(G:GT)(cf:CF)(j4:K.Fn 0)(j5:K.Fn 4)(x6 x7 x8 x9:AV)(bU:Hp):R:=
 B1 (cx x9 x8) fun v11=>
 CD v11 (
 J 4 (fun cH=>
 J 6 (fun eN=>
 B1 (aA 2 x7 bU) fun cI=>
 B1 (ia 2 x6 x9) fun gE=>
 B1 (aA 2 gE bU) fun c8=>
 sJ (gA P .eql 231 false cI c8) <| B1 (eG P .eql 231 cI c8 bU) fun eH=>
 eN x6 x7 x9 x8 x9 eH bU) (fun bE df cY aU aN bc jh=>
 CD bc (
 some (cY,jh)) (
 cH bE df aU aN jh))) (fun bB bX bT dh dR=>
 B1 (bS dh (.int .i64 1)) fun v30=>
 j5 bB bX bT v30 dR)) (
 j4  bU)
noncomputable def F7 (J:JT)(G:GT)(cf:CF)(j4:K.Fn 0):K.Fn 4:=dZ P an J G cf 177 [1,0,1,0,0] [0,3,7,8] (fun q t H=>match Nat.beq q 0 with | true=>app 0 j4 (ax [] t) H | false=>(fun _ _ _=>none) q t H)
theorem Xl (cf:CF)(j4:K.Fn 0)(x6 x7 x8 x9:AV)(bU:Hp):F7 JN GO cf j4 x6 x7 x8 x9 bU=Ry JN GO cf j4 (F7 JN GO cf j4) x6 x7 x8 x9 bU:=aal (b:=app 4 (F7 JN GO cf j4) [x6,x7,x8,x9] bU) (by kernel_rfl) ((eU cf 177 [1,0,1,0,0] [0,3,7,8] _ [x6,x7,x8,x9] rfl bU).trans (by kernel_rfl))
noncomputable def ZK (J:JT)(G:GT)(cf:CF)(a0 a1:AV)(H:Hp):R:=
 BN (bx 231 a1 H) fun i0 h1=>
 J 0 (fun j2=>
 B1 (bq a0) fun v3=>
 J 0 (fun j4=>
 F7 J G cf j4 a0 (.ptr i0 0) v3 (.int .i64 0) h1) (fun  gh=>
 j2  gh)) (fun  eF=>
 some ((.int .i64 (-1)),eF))
theorem alH {a0 a1:AV}{H:Hp}{r:AV × Hp}(h:ZK JN GO cK a0 a1 H=some r):cK (.func (.func 177) [] []) [a0,a1] H=some r:=aS (first:=[]) (cap:=[]) (aal (by kernel_rfl) h)
noncomputable def Vh (J:JT)(G:GT)(cf:CF)(a0 a1:AV)(H:Hp):R:=
 BN (bx 231 a1 H) fun i0 h1=>
 B1 (aA 2 (.ptr i0 0) h1) fun v2=>
 B2 (cf (.func (.func 177) [] []) [a0,v2] h1) fun v3 h4=>
 B1 (lS v3 (.int .i64 0)) fun v5=>
 some (v5,h4)
theorem aeM {a0 a1:AV}{H:Hp}{r:AV × Hp}(h:Vh JN GO cK a0 a1 H=some r):cK (.func (.func 158) [] []) [a0,a1] H=some r:=aS (first:=[]) (cap:=[]) (aal (by kernel_rfl) h)
noncomputable def abj (J:JT)(G:GT)(cf:CF)(a0 a1:AV)(H:Hp):R:=
 B2 (cf (.func (.func 163) [] []) [a0,a1] H) fun v0 h1=>
 B1 (lS v0 (.int .i64 0)) fun v2=>
 some (v2,h1)
theorem aoC {a0 a1:AV}{H:Hp}{r:AV × Hp}(h:abj JN GO cK a0 a1 H=some r):cK (.func (.func 143) [] []) [a0,a1] H=some r:=aS (first:=[]) (cap:=[]) (aal (by kernel_rfl) h)
noncomputable def Iu (J:JT)(G:GT)(cf:CF)(j2:K.Fn 0)(j3:K.Fn 4)(x4 x5 x6 x7:AV)(h8:Hp):R:=
 B1 (cx x7 x6) fun v9=>
 CD v9 (
 J 4 (fun aD=>
 J 6 (fun lD=>
 B1 (ia 1 x4 x7) fun v12=>
 B1 (ld v12 h8) fun dN=>
 B2 (cf x5 [dN] h8) fun cI eV=>
 lD x4 x5 x7 x6 x7 cI eV) (fun bH bW bE df cY aU lR=>
 CD aU (
 some (bE,lR)) (
 aD bH bW df cY lR))) (fun bc bC bB bX eQ=>
 B1 (bS bX (.int .i64 1)) fun v28=>
 j3 bc bC bB v28 eQ)) (
 j2  h8)
noncomputable def GM (J:JT)(G:GT)(cf:CF)(j2:K.Fn 0):K.Fn 4:=dZ P an J G cf 163 [1,0,1,0,0] [0,1,7,8] (fun q t H=>match Nat.beq q 0 with | true=>app 0 j2 (ax [] t) H | false=>(fun _ _ _=>none) q t H)
theorem PU (cf:CF)(j2:K.Fn 0)(x4 x5 x6 x7:AV)(h8:Hp):GM JN GO cf j2 x4 x5 x6 x7 h8=Iu JN GO cf j2 (GM JN GO cf j2) x4 x5 x6 x7 h8:=aal (b:=app 4 (GM JN GO cf j2) [x4,x5,x6,x7] h8) (by kernel_rfl) ((eU cf 163 [1,0,1,0,0] [0,1,7,8] _ [x4,x5,x6,x7] rfl h8).trans (by kernel_rfl))
noncomputable def Yb (J:JT)(G:GT)(cf:CF)(a0 a1:AV)(H:Hp):R:=
 J 0 (fun j0=>
 B1 (bq a0) fun v1=>
 J 0 (fun j2=>
 GM J G cf j2 a0 a1 v1 (.int .i64 0) H) (fun  dR=>
 j0  dR)) (fun  lE=>
 some ((.int .i64 (-1)),lE))
theorem aj3 {a0 a1:AV}{H:Hp}{r:AV × Hp}(h:Yb JN GO cK a0 a1 H=some r):cK (.func (.func 163) [] []) [a0,a1] H=some r:=aS (first:=[]) (cap:=[]) (aal (by kernel_rfl) h)
noncomputable def QG (J:JT)(G:GT)(cf:CF)(j2:K.Fn 0)(j3:K.Fn 4)(x4 x5 x6 x7:AV)(h8:Hp):R:=
 B1 (cx x7 x6) fun v9=>
 CD v9 (
 J 4 (fun aD=>
 J 6 (fun lD=>
 B1 (ia 1 x4 x7) fun v12=>
 B1 (ld v12 h8) fun dN=>
 B1 (bF x5 dN) fun cI=>
 lD x4 x5 x7 x6 x7 cI h8) (fun bp bH bW bE df cY lg=>
 CD cY (
 some (bW,lg)) (
 aD bp bH bE df lg))) (fun aN bc bC bB dW=>
 B1 (bS bB (.int .i64 1)) fun v27=>
 j3 aN bc bC v27 dW)) (
 j2  h8)
noncomputable def EA (J:JT)(G:GT)(cf:CF)(j2:K.Fn 0):K.Fn 4:=dZ P an J G cf 174 [1,0,1,0,0] [0,1,7,8] (fun q t H=>match Nat.beq q 0 with | true=>app 0 j2 (ax [] t) H | false=>(fun _ _ _=>none) q t H)
theorem XI (cf:CF)(j2:K.Fn 0)(x4 x5 x6 x7:AV)(h8:Hp):EA JN GO cf j2 x4 x5 x6 x7 h8=QG JN GO cf j2 (EA JN GO cf j2) x4 x5 x6 x7 h8:=aal (b:=app 4 (EA JN GO cf j2) [x4,x5,x6,x7] h8) (by kernel_rfl) ((eU cf 174 [1,0,1,0,0] [0,1,7,8] _ [x4,x5,x6,x7] rfl h8).trans (by kernel_rfl))
noncomputable def abY (J:JT)(G:GT)(cf:CF)(a0 a1:AV)(H:Hp):R:=
 J 0 (fun j0=>
 B1 (bq a0) fun v1=>
 J 0 (fun j2=>
 EA J G cf j2 a0 a1 v1 (.int .i64 0) H) (fun  gH=>
 j0  gH)) (fun  dR=>
 some ((.int .i64 (-1)),dR))
theorem aeP {a0 a1:AV}{H:Hp}{r:AV × Hp}(h:abY JN GO cK a0 a1 H=some r):cK (.func (.func 174) [] []) [a0,a1] H=some r:=aS (first:=[]) (cap:=[]) (aal (by kernel_rfl) h)
noncomputable def YM (J:JT)(G:GT)(cf:CF)(a0 a1:AV)(H:Hp):R:=
 B2 (cf (.func (.func 174) [] []) [a0,a1] H) fun v0 h1=>
 B1 (lS v0 (.int .i64 0)) fun v2=>
 some (v2,h1)
theorem agO {a0 a1:AV}{H:Hp}{r:AV × Hp}(h:YM JN GO cK a0 a1 H=some r):cK (.func (.func 154) [] []) [a0,a1] H=some r:=aS (first:=[]) (cap:=[]) (aal (by kernel_rfl) h)
noncomputable def UR (J:JT)(G:GT)(cf:CF)(a0 a1:AV)(H:Hp):R:=
 B2 (cf (.func (.func 135) [] []) [a0,a1] H) fun v0 h1=>
 B1 (lS v0 (.int .i64 0)) fun v2=>
 some (v2,h1)
theorem aj9 {a0 a1:AV}{H:Hp}{r:AV × Hp}(h:UR JN GO cK a0 a1 H=some r):cK (.func (.func 95) [] []) [a0,a1] H=some r:=aS (first:=[]) (cap:=[]) (aal (by kernel_rfl) h)
noncomputable def KM (J:JT)(G:GT)(cf:CF)(j2:K.Fn 0)(j3:K.Fn 4)(x4 x5 x6 x7:AV)(h8:Hp):R:=
 B1 (cx x7 x6) fun v9=>
 CD v9 (
 J 4 (fun aD=>
 J 6 (fun lD=>
 B1 (ia 6 x4 x7) fun v12=>
 B1 (aA 6 v12 h8) fun dN=>
 B2 (cf x5 [dN] h8) fun cI eV=>
 lD x4 x5 x7 x6 x7 cI eV) (fun bH bW bE df cY aU lR=>
 CD aU (
 some (bE,lR)) (
 aD bH bW df cY lR))) (fun bc bC bB bX eQ=>
 B1 (bS bX (.int .i64 1)) fun v28=>
 j3 bc bC bB v28 eQ)) (
 j2  h8)
noncomputable def Ij (J:JT)(G:GT)(cf:CF)(j2:K.Fn 0):K.Fn 4:=dZ P an J G cf 135 [1,0,1,0,0] [0,1,7,8] (fun q t H=>match Nat.beq q 0 with | true=>app 0 j2 (ax [] t) H | false=>(fun _ _ _=>none) q t H)
theorem M8 (cf:CF)(j2:K.Fn 0)(x4 x5 x6 x7:AV)(h8:Hp):Ij JN GO cf j2 x4 x5 x6 x7 h8=KM JN GO cf j2 (Ij JN GO cf j2) x4 x5 x6 x7 h8:=aal (b:=app 4 (Ij JN GO cf j2) [x4,x5,x6,x7] h8) (by kernel_rfl) ((eU cf 135 [1,0,1,0,0] [0,1,7,8] _ [x4,x5,x6,x7] rfl h8).trans (by kernel_rfl))
noncomputable def Xc (J:JT)(G:GT)(cf:CF)(a0 a1:AV)(H:Hp):R:=
 J 0 (fun j0=>
 B1 (bq a0) fun v1=>
 J 0 (fun j2=>
 Ij J G cf j2 a0 a1 v1 (.int .i64 0) H) (fun  dR=>
 j0  dR)) (fun  lE=>
 some ((.int .i64 (-1)),lE))
theorem agR {a0 a1:AV}{H:Hp}{r:AV × Hp}(h:Xc JN GO cK a0 a1 H=some r):cK (.func (.func 135) [] []) [a0,a1] H=some r:=aS (first:=[]) (cap:=[]) (aal (by kernel_rfl) h)
noncomputable def Pp (J:JT)(G:GT)(cf:CF)(a0:AV)(H:Hp):R:=
 sJ (gA P .eql 70 true a0 .ah) <| B1 (eG P .eql 70 a0 .ah H) fun v0=>
 CD v0 (
 some (.ah,H)) (
 B1 (fl [] []) fun l1=>
 BN (aE H l1 99 0) fun i2 h3=>
 B2 (gg 99 6 [(.str []),.ah,(.int .i64 0),(.int .i64 0),(.int .i64 0),(.str [])] false (.slice i2 0 0 0 true 6) a0 h3) fun v4 h5=>
 some (v4,h5))
theorem UT {a0:AV}{H:Hp}{r:AV × Hp}(h:Pp JN GO cK a0 H=some r):cK (.func (.func 136) [] []) [a0] H=some r:=aS (first:=[]) (cap:=[]) (aal (by kernel_rfl) h)
noncomputable def Qo (J:JT)(G:GT)(cf:CF)(a0:AV)(H:Hp):R:=
 sJ (gA P .eql 97 true a0 .ah) <| B1 (eG P .eql 97 a0 .ah H) fun v0=>
 CD v0 (
 some (.ah,H)) (
 B1 (fl [] []) fun l1=>
 BN (aE H l1 3 0) fun i2 h3=>
 B2 (gg 3 1 [(.int .i64 0)] false (.slice i2 0 0 0 true 1) a0 h3) fun v4 h5=>
 some (v4,h5))
theorem Zl {a0:AV}{H:Hp}{r:AV × Hp}(h:Qo JN GO cK a0 H=some r):cK (.func (.func 137) [] []) [a0] H=some r:=aS (first:=[]) (cap:=[]) (aal (by kernel_rfl) h)
noncomputable def Mj (J:JT)(G:GT)(cf:CF)(a0:AV)(H:Hp):R:=
 sJ (gA P .eql 73 true a0 .ah) <| B1 (eG P .eql 73 a0 .ah H) fun v0=>
 CD v0 (
 some (.ah,H)) (
 B1 (fl [] []) fun l1=>
 BN (aE H l1 132 0) fun i2 h3=>
 B2 (gg 132 4 [(.int .i64 0),(.int .i64 0),(.int .i64 0),(.str [])] false (.slice i2 0 0 0 true 4) a0 h3) fun v4 h5=>
 some (v4,h5))
theorem V3 {a0:AV}{H:Hp}{r:AV × Hp}(h:Mj JN GO cK a0 H=some r):cK (.func (.func 138) [] []) [a0] H=some r:=aS (first:=[]) (cap:=[]) (aal (by kernel_rfl) h)
noncomputable def N3 (J:JT)(G:GT)(cf:CF)(a0:AV)(H:Hp):R:=
 sJ (gA P .eql 46 true a0 .ah) <| B1 (eG P .eql 46 a0 .ah H) fun v0=>
 CD v0 (
 some (.ah,H)) (
 B1 (fl [] []) fun l1=>
 BN (aE H l1 9 0) fun i2 h3=>
 B2 (gg 9 1 [(.str [])] false (.slice i2 0 0 0 true 1) a0 h3) fun v4 h5=>
 some (v4,h5))
theorem Vj {a0:AV}{H:Hp}{r:AV × Hp}(h:N3 JN GO cK a0 H=some r):cK (.func (.func 30) [] []) [a0] H=some r:=aS (first:=[]) (cap:=[]) (aal (by kernel_rfl) h)
noncomputable def IL (J:JT)(G:GT)(cf:CF)(cn:K.Fn 0)(gm:K.Fn 5)(cw bM dG bN cu:AV)(fL:Hp):R:=
 B1 (cx cu bN) fun eM=>
 CD eM (
 J 5 (fun wD=>
 B1 (ia 2 dG cu) fun v41=>
 B1 (aA 2 v41 fL) fun fw=>
 BN (aE fL [(.int .i64 0),(.int .i64 0)] 231 0) fun i43 ef=>
 B1 (st 2 (.ptr i43 0) fw ef) fun nB=>
 J 6 (fun yH=>
 J 7 (fun xI=>
 B1 (aA 2 cw nB) fun gB=>
 B1 (nj 2 1 (.ptr i43 0) (.int .i64 0)) fun v49=>
 B1 (ld v49 nB) fun ij=>
 B2 (cf (.func (.func 175) [] []) [gB,ij] nB) fun v51 nO=>
 B1 (fX .not v51) fun v53=>
 G v53 false (fun k54=>
 B1 (aA 2 cw nO) fun jD=>
 k54 jD nO) (fun kU jv=>
 G v53 false (fun Gm=>
 B1 (nj 2 1 (.ptr i43 0) (.int .i64 1)) fun v59=>
 Gm v59 jv) (fun fW gD=>
 G v53 false (fun k62=>
 B1 (ld fW gD) fun v63=>
 k62 v63 gD) (fun v64 mL=>
 G v53 false (fun O4=>
 B2 (cf (.func (.func 175) [] []) [kU,v64] mL) fun nX xD=>
 O4 nX xD) (fun jo tW=>
 G v53 false (fun k71=>
 B1 (fX .not jo) fun v72=>
 k71 v72 tW) (fun kP xV=>
 B1 (pk v53 (.bool true) kP) fun v75=>
 G v75 false (fun k76=>
 B1 (nj 2 1 (.ptr i43 0) (.int .i64 0)) fun pU=>
 k76 pU xV) (fun rT iJ=>
 G v75 false (fun OP=>
 B1 (ld rT iJ) fun pW=>
 OP pW iJ) (fun mM py=>
 G v75 false (fun GH=>
 B1 (nj 2 1 (.ptr i43 0) (.int .i64 1)) fun v85=>
 GH v85 py) (fun vn tD=>
 G v75 false (fun MH=>
 B1 (ld vn tD) fun rA=>
 MH rA tD) (fun qa wo=>
 G v75 false (fun k92=>
 B1 (bF mM qa) fun v93=>
 k92 v93 wo) (fun xf qh=>
 B1 (pk v75 (.bool true) xf) fun qE=>
 G qE false (fun k97=>
 k97 bM qh) (fun IW GJ=>
 G qE false (fun aeG=>
 B1 (aA 2 (.ptr i43 0) GJ) fun vm=>
 aeG vm GJ) (fun rG lf=>
 G qE false (fun Ql=>
 B1 (qo P 248 IW rG false lf) fun v105=>
 Ql v105 lf) (fun zz AI=>
 B1 (pk qE (.bool true) zz) fun wH=>
 xI cw bM (.ptr i43 0) dG bN cu wH AI) lf) GJ) qh) wo) tD) py) iJ) xV) tW) mL) gD) jv) nO) (fun gP nG oG sD rO qW xC Bv=>
 CD xC (
 some ((.bool false),Bv)) (
 yH gP nG oG sD rO qW Bv))) (fun AP yv uQ sf sA ug Dh=>
 B1 (aA 2 uQ Dh) fun v124=>
 B1 (nF P 248 yv v124 (.bool true) Dh) fun Fi=>
 wD AP yv sf sA ug Fi)) (fun jI iD iu iX kf C9=>
 B1 (bS kf (.int .i64 1)) fun Si=>
 gm jI iD iu iX Si C9)) (
 cn  fL)
noncomputable def Fk (J:JT)(G:GT)(cf:CF)(cn:K.Fn 0):K.Fn 5:=dZ P an J G cf 155 [1,1,1,0,1,0,0] [1,3,16,17,18] (fun q t H=>match Nat.beq q 0 with | true=>app 0 cn (ax [] t) H | false=>(fun _ _ _=>none) q t H)
theorem acx (J:JT)(G:GT)(cf:CF)(cn:K.Fn 0)(gm:K.Fn 5)(cw bM dG bN cu:AV)(fL:Hp):lB P an J G cf 155 [1,1,1,0,1,0,0] [1,3,16,17,18] (fun q t H=>match Nat.beq q 0 with | true=>app 0 cn (ax [] t) H | false=>(fun _ _ _=>none) q t H) gm [cw,bM,dG,bN,cu] fL=IL J G cf cn gm cw bM dG bN cu fL:=by kernel_rfl
theorem UG (cf:CF)(cn:K.Fn 0)(cw bM dG bN cu:AV)(fL:Hp):Fk JN GO cf cn cw bM dG bN cu fL=IL JN GO cf cn (Fk JN GO cf cn) cw bM dG bN cu fL:=aal (b:=app 5 (Fk JN GO cf cn) [cw,bM,dG,bN,cu] fL) (by kernel_rfl) ((eU cf _ _ _ _ [cw,bM,dG,bN,cu] rfl fL).trans (acx JN GO cf cn _ cw bM dG bN cu fL))
noncomputable def Sc (J:JT)(G:GT)(cf:CF)(a0:AV)(H:Hp):R:=
 BN (bx 201 a0 H) fun i0 h1=>
 J 1 (fun j2=>
 J 2 (fun j3=>
 B1 (fa 0 (.ptr i0 0)) fun v4=>
 B1 (ld v4 h1) fun v5=>
 B1 (cx v5 (.int .i64 0)) fun v6=>
 G v6 false (fun k7=>
 B1 (fa 0 (.ptr i0 0)) fun v8=>
 k7 v8 h1) (fun v9 bU=>
 G v6 false (fun Aa=>
 B1 (ld v9 bU) fun v12=>
 Aa v12 bU) (fun dN ie=>
 G v6 false (fun wJ=>
 B1 (mU dN (.int .i64 16)) fun c8=>
 wJ c8 ie) (fun eH eY=>
 B1 (pk v6 (.bool true) eH) fun gW=>
 j3 (.ptr i0 0) gW eY) ie) bU) h1) (fun cY aU lR=>
 CD aU (
 some ((.bool false),lR)) (
 j2 cY lR))) (fun bc jh=>
 BN (xj jh) fun i25 dW=>
 J 0 (fun xM=>
 B1 (fa 1 bc) fun v28=>
 B1 (ld v28 dW) fun v29=>
 B1 (bq v29) fun v30=>
 J 0 (fun cn=>
 Fk J G cf cn bc (.map i25) v29 v30 (.int .i64 0) dW) (fun  lH=>
 xM  lH)) (fun  wj=>
 some ((.bool true),wj)))
theorem acT (J:JT)(G:GT)(cf:CF)(a0:AV)(H:Hp):fK P J G aQ an cf 155 [a0] H=Sc J G cf a0 H:=by kernel_rfl
theorem ae7 {a0:AV}{H:Hp}{r:AV × Hp}(h:Sc JN GO cK a0 H=some r):cK (.func (.func 155) [] []) [a0] H=some r:=aS (first:=[]) (cap:=[]) ((acT JN GO _ a0 H).trans h)
noncomputable def Z2 (J:JT)(G:GT)(cf:CF)(a0 a1:AV)(H:Hp):R:=
 BN (bx 201 a0 H) fun i0 h1=>
 B1 (lS a1 (.int .i64 0)) fun v2=>
 G v2 true (fun k3=>
 k3 a1 h1) (fun v4 h5=>
 G v2 true (fun k6=>
 B1 (fa 0 (.ptr i0 0)) fun v7=>
 k6 v7 h5) (fun v8 h9=>
 G v2 true (fun Aj=>
 B1 (ld v8 h9) fun v11=>
 Aj v11 h9) (fun v12 iP=>
 G v2 true (fun Pf=>
 B1 (cx v4 v12) fun gE=>
 Pf gE iP) (fun c8 dI=>
 B1 (pk v2 c8 (.bool false)) fun dy=>
 some (dy,dI)) iP) h9) h5) h1
theorem aeA {a0 a1:AV}{H:Hp}{r:AV × Hp}(h:Z2 JN GO cK a0 a1 H=some r):cK (.func (.func 175) [] []) [a0,a1] H=some r:=aS (first:=[]) (cap:=[]) (aal (by kernel_rfl) h)
noncomputable def Dg (J:JT)(G:GT)(cf:CF)(aD:K.Fn 1)(lD:K.Fn 6)(bo ba bf bp bH bW:AV)(eY:Hp):R:=
 B1 (cx bW bH) fun gW=>
 CD gW (
 J 6 (fun aF=>
 J 6 (fun eP=>
 B1 (ia 2 bp bW) fun v22=>
 B1 (aA 2 v22 eY) fun v23=>
 BN (aE eY [(.int .i64 0),(.int .i64 0)] 231 0) fun i24 dC=>
 B1 (st 2 (.ptr i24 0) v23 dC) fun dW=>
 J 8 (fun xM=>
 B1 (nj 2 1 (.ptr i24 0) ba) fun v28=>
 B1 (ld v28 dW) fun v29=>
 B1 (bF v29 bo) fun v30=>
 xM bo ba bf (.ptr i24 0) bp bH bW v30 dW) (fun bZ eT cw bM dG bN cu cG rQ=>
 CD cG (
 B1 (mI (.int .i64 1) eT) fun v40=>
 B1 (nj 2 1 bM v40) fun v41=>
 B1 (ld v41 rQ) fun fw=>
 B1 (fl [(.int .i64 0)] [(0,1,fw)]) fun l43=>
 BN (aE rQ l43 3 0) fun i44 nB=>
 B2 (gg 3 1 [(.int .i64 0)] false cw (.slice i44 0 1 1 true 1) nB) fun v46 ka=>
 eP bZ eT v46 dG bN cu ka) (
 eP bZ eT cw dG bN cu rQ))) (fun fF fS gK gJ eD eL wI=>
 aF fF fS gK gJ eD eL wI)) (fun fy cL db dd cJ eR gD=>
 B1 (bS eR (.int .i64 1)) fun gM=>
 lD fy cL db dd cJ gM gD)) (
 aD bf eY)
noncomputable def GK (J:JT)(G:GT)(cf:CF)(aD:K.Fn 1):K.Fn 6:=dZ P an J G cf 176 [1,1,1,0,1,0,0] [1,2,7,14,15,16] (fun q t H=>match Nat.beq q 0 with | true=>app 1 aD (ax [7] t) H | false=>(fun _ _ _=>none) q t H)
theorem RU (cf:CF)(aD:K.Fn 1)(bo ba bf bp bH bW:AV)(eY:Hp):GK JN GO cf aD bo ba bf bp bH bW eY=Dg JN GO cf aD (GK JN GO cf aD) bo ba bf bp bH bW eY:=aal (b:=app 6 (GK JN GO cf aD) [bo,ba,bf,bp,bH,bW] eY) (by kernel_rfl) ((eU cf 176 [1,1,1,0,1,0,0] [1,2,7,14,15,16] _ [bo,ba,bf,bp,bH,bW] rfl eY).trans (by kernel_rfl))
noncomputable def WE (J:JT)(G:GT)(cf:CF)(a0 a1 a2:AV)(H:Hp):R:=
 BN (bx 201 a0 H) fun i0 h1=>
 B1 (aA 2 (.ptr i0 0) h1) fun v2=>
 B2 (cf (.func (.func 155) [] []) [v2] h1) fun v3 h4=>
 B1 (fX .not v3) fun v5=>
 CD v5 (
 some (.ah,h4)) (
 J 1 (fun j6=>
 B1 (fa 1 (.ptr i0 0)) fun v7=>
 B1 (ld v7 h4) fun v8=>
 B1 (bq v8) fun v9=>
 J 1 (fun aD=>
 GK J G cf aD a1 a2 .ah v8 v9 (.int .i64 0) h4) (fun jB sW=>
 j6 jB sW)) (fun eO fV=>
 B2 (cf (.func (.func 192) [] []) [eO] fV) fun nX xD=>
 some (eO,xD)))
theorem akt {a0 a1 a2:AV}{H:Hp}{r:AV × Hp}(h:WE JN GO cK a0 a1 a2 H=some r):cK (.func (.func 176) [] []) [a0,a1,a2] H=some r:=aS (first:=[]) (cap:=[]) (aal (by kernel_rfl) h)
noncomputable def W6 (J:JT)(G:GT)(cf:CF)(a0 a1:AV)(H:Hp):R:=
 BN (bx 201 a0 H) fun i0 h1=>
 B1 (aA 2 (.ptr i0 0) h1) fun v2=>
 B2 (cf (.func (.func 176) [] []) [v2,a1,(.int .i64 0)] h1) fun v3 h4=>
 some (v3,h4)
theorem afi {a0 a1:AV}{H:Hp}{r:AV × Hp}(h:W6 JN GO cK a0 a1 H=some r):cK (.func (.func 157) [] []) [a0,a1] H=some r:=aS (first:=[]) (cap:=[]) (aal (by kernel_rfl) h)
noncomputable def GX (J:JT)(G:GT)(cf:CF)(aD:K.Fn 1)(aF:K.Fn 4)(eZ:K.Fn 4)(dq:K.Fn 7)(eh:K.Fn 7)(qY:K.Fn 10)(cL db dd cJ eR dK jH jB fq eO:AV)(fV:Hp):R:=
 B1 (cx eO fq) fun nX=>
 CD nX (
 J 10 (fun Gr=>
 J 10 (fun Lo=>
 B1 (ia 1 jB eO) fun v70=>
 B1 (ld v70 fV) fun nP=>
 J 12 (fun tv=>
 B1 (ia 1 db nP) fun kP=>
 B1 (ld kP fV) fun jO=>
 B1 (bF jO (.int .i64 0)) fun v75=>
 tv cL db dd cJ nP eR dK jH jB fq eO v75 fV) (fun gC fc fe pF nq qI uv mB pt oX pG se Eu=>
 CD se (
 J 11 (fun j89=>
 B1 (ia 1 fc nq) fun qa=>
 B1 (st 1 qa fe Eu) fun wo=>
 j89 gC fc fe pF nq qI uv mB pt oX pG wo) (fun mj mX kq kI mG nZ qB lM qX oN qu lf=>
 B1 (fl [(.int .i64 0)] [(0,1,mG)]) fun EO=>
 BN (aE lf EO 3 0) fun i105 uo=>
 B2 (gg 3 1 [(.int .i64 0)] false kI (.slice i105 0 1 1 true 1) uo) fun v107 Oy=>
 Lo mj mX kq v107 nZ qB lM qX oN qu Oy)) (
 Lo gC fc fe pF qI uv mB pt oX pG Eu))) (fun gP nG oG sD rO qW xC xG AP yv Ph=>
 Gr gP nG oG sD rO qW xC xG AP yv Ph)) (fun sf sA ug xd AL Gb jI iD iu iX ya=>
 B1 (bS iX (.int .i64 1)) fun v131=>
 qY sf sA ug xd AL Gb jI iD iu v131 ya)) (
 eh cL db dd cJ eR dK jH fV)
noncomputable def HO (J:JT)(G:GT)(cf:CF)(aD:K.Fn 1)(aF:K.Fn 4)(eZ:K.Fn 4)(dq:K.Fn 7)(eh:K.Fn 7):K.Fn 10:=dZ P an J G cf 156 [1,1,1,0,1,0,0,1,0,0,1,0,1,0,0,1,1,0,0,1,1,0,0] [2,5,7,8,23,24,25,31,32,33] (fun q t H=>match Nat.beq q 4 with | true=>app 7 eh (ax [2,5,7,8,23,24,25] t) H | false=>(fun q t H=>match Nat.beq q 3 with | true=>app 7 dq (ax [2,5,7,8,23,24,25] t) H | false=>(fun q t H=>match Nat.beq q 2 with | true=>app 4 eZ (ax [2,5,7,8] t) H | false=>(fun q t H=>match Nat.beq q 1 with | true=>app 4 aF (ax [2,5,6,7] t) H | false=>(fun q t H=>match Nat.beq q 0 with | true=>app 1 aD (ax [5] t) H | false=>(fun _ _ _=>none) q t H) q t H) q t H) q t H) q t H)
theorem ai7 (J:JT)(G:GT)(cf:CF)(aD:K.Fn 1)(aF:K.Fn 4)(eZ:K.Fn 4)(dq:K.Fn 7)(eh:K.Fn 7)(qY:K.Fn 10)(cL db dd cJ eR dK jH jB fq eO:AV)(fV:Hp):lB P an J G cf 156 [1,1,1,0,1,0,0,1,0,0,1,0,1,0,0,1,1,0,0,1,1,0,0] [2,5,7,8,23,24,25,31,32,33] (fun q t H=>match Nat.beq q 4 with | true=>app 7 eh (ax [2,5,7,8,23,24,25] t) H | false=>(fun q t H=>match Nat.beq q 3 with | true=>app 7 dq (ax [2,5,7,8,23,24,25] t) H | false=>(fun q t H=>match Nat.beq q 2 with | true=>app 4 eZ (ax [2,5,7,8] t) H | false=>(fun q t H=>match Nat.beq q 1 with | true=>app 4 aF (ax [2,5,6,7] t) H | false=>(fun q t H=>match Nat.beq q 0 with | true=>app 1 aD (ax [5] t) H | false=>(fun _ _ _=>none) q t H) q t H) q t H) q t H) q t H) qY [cL,db,dd,cJ,eR,dK,jH,jB,fq,eO] fV=GX J G cf aD aF eZ dq eh qY cL db dd cJ eR dK jH jB fq eO fV:=by kernel_rfl
theorem QR (cf:CF)(aD:K.Fn 1)(aF:K.Fn 4)(eZ:K.Fn 4)(dq:K.Fn 7)(eh:K.Fn 7)(cL db dd cJ eR dK jH jB fq eO:AV)(fV:Hp):HO JN GO cf aD aF eZ dq eh cL db dd cJ eR dK jH jB fq eO fV=GX JN GO cf aD aF eZ dq eh (HO JN GO cf aD aF eZ dq eh) cL db dd cJ eR dK jH jB fq eO fV:=aal (b:=app 10 (HO JN GO cf aD aF eZ dq eh) [cL,db,dd,cJ,eR,dK,jH,jB,fq,eO] fV) (by kernel_rfl) ((eU cf _ _ _ _ [cL,db,dd,cJ,eR,dK,jH,jB,fq,eO] rfl fV).trans (ai7 JN GO cf aD aF eZ dq eh _ cL db dd cJ eR dK jH jB fq eO fV))
noncomputable def MY (J:JT)(G:GT)(cf:CF)(aD:K.Fn 1)(aF:K.Fn 4)(eZ:K.Fn 4)(HZ:K.Fn 7)(bB bX bT dh eK dE bZ:AV)(eF:Hp):R:=
 B1 (cx bZ dE) fun fM=>
 CD fM (
 J 7 (fun kM=>
 J 7 (fun dq=>
 B1 (ia 1 eK bZ) fun v36=>
 B1 (ld v36 eF) fun v37=>
 J 10 (fun PW=>
 B1 (aA 2 bB eF) fun eM=>
 B2 (cf (.func (.func 157) [] []) [eM,v37] eF) fun v40 gR=>
 B1 (bq v40) fun fw=>
 PW bB bX bT dh eK dE bZ v40 fw (.int .i64 0) gR) (fun dP iK fC iM fQ fF fS gK gJ eD ir=>
 J 7 (fun eh=>
 HO J G cf aD aF eZ dq eh dP iK fC iM fQ fF fS gK gJ eD ir) (fun jW tP tK pO sN zg DQ wF=>
 dq jW tP tK pO sN zg DQ wF))) (fun RY DM HA NI BZ Df Cq Qz=>
 kM RY DM HA NI BZ Df Cq Qz)) (fun PA zL zM z7 AG D8 FY adz=>
 B1 (bS FY (.int .i64 1)) fun QV=>
 HZ PA zL zM z7 AG D8 QV adz)) (
 eZ bB bX bT dh eF)
noncomputable def Ib (J:JT)(G:GT)(cf:CF)(aD:K.Fn 1)(aF:K.Fn 4)(eZ:K.Fn 4):K.Fn 7:=dZ P an J G cf 156 [1,1,1,0,1,0,0,1,0,0,1,0,1,0,0] [2,5,7,8,23,24,25] (fun q t H=>match Nat.beq q 2 with | true=>app 4 eZ (ax [2,5,7,8] t) H | false=>(fun q t H=>match Nat.beq q 1 with | true=>app 4 aF (ax [2,5,6,7] t) H | false=>(fun q t H=>match Nat.beq q 0 with | true=>app 1 aD (ax [5] t) H | false=>(fun _ _ _=>none) q t H) q t H) q t H)
theorem abF (cf:CF)(aD:K.Fn 1)(aF:K.Fn 4)(eZ:K.Fn 4)(bB bX bT dh eK dE bZ:AV)(eF:Hp):Ib JN GO cf aD aF eZ bB bX bT dh eK dE bZ eF=MY JN GO cf aD aF eZ (Ib JN GO cf aD aF eZ) bB bX bT dh eK dE bZ eF:=aal (b:=app 7 (Ib JN GO cf aD aF eZ) [bB,bX,bT,dh,eK,dE,bZ] eF) (by kernel_rfl) ((eU cf 156 [1,1,1,0,1,0,0,1,0,0,1,0,1,0,0] [2,5,7,8,23,24,25] _ [bB,bX,bT,dh,eK,dE,bZ] rfl eF).trans (by kernel_rfl))
noncomputable def RB (J:JT)(G:GT)(cf:CF)(aD:K.Fn 1)(lD:K.Fn 4)(bo ba bf bp:AV)(bD:Hp):R:=
 B1 (bq bf) fun eH=>
 B1 (mU eH (.int .i64 0)) fun dy=>
 CD dy (
 J 4 (fun bO=>
 J 4 (fun aF=>
 J 4 (fun eP=>
 B1 (bq bf) fun v22=>
 J 4 (fun eZ=>
 Ib J G cf aD aF eZ bo ba bp .ah bf v22 (.int .i64 0) bD) (fun Q6 Ol aiP Hm apb=>
 eP Q6 Ol aiP Hm apb)) (fun nQ n0 nD QZ aoT=>
 aF nQ n0 QZ nD aoT)) (fun EG ET Hj PC FV=>
 bO EG ET Hj PC FV)) (fun BH zu C8 Bb A7=>
 B1 (bS Bb (.int .i64 1)) fun HI=>
 lD BH zu C8 HI A7)) (
 aD ba bD)
noncomputable def Dq (J:JT)(G:GT)(cf:CF)(aD:K.Fn 1):K.Fn 4:=dZ P an J G cf 156 [1,1,1,0,1,0,0] [2,5,6,7] (fun q t H=>match Nat.beq q 0 with | true=>app 1 aD (ax [5] t) H | false=>(fun _ _ _=>none) q t H)
theorem aba (cf:CF)(aD:K.Fn 1)(bo ba bf bp:AV)(bD:Hp):Dq JN GO cf aD bo ba bf bp bD=RB JN GO cf aD (Dq JN GO cf aD) bo ba bf bp bD:=aal (b:=app 4 (Dq JN GO cf aD) [bo,ba,bf,bp] bD) (by kernel_rfl) ((eU cf 156 [1,1,1,0,1,0,0] [2,5,6,7] _ [bo,ba,bf,bp] rfl bD).trans (by kernel_rfl))
noncomputable def T9 (J:JT)(G:GT)(cf:CF)(a0 a1:AV)(H:Hp):R:=
 BN (bx 201 a0 H) fun i0 h1=>
 B1 (fa 0 (.ptr i0 0)) fun v2=>
 B1 (ld v2 h1) fun v3=>
 B2 (xp [(.int .i64 0)] 3 1 v3 v3 h1) fun v4 h5=>
 B1 (fl [(.int .i64 0)] [(0,1,a1)]) fun l6=>
 BN (aE h5 l6 3 0) fun i7 h8=>
 J 1 (fun j9=>
 J 1 (fun aD=>
 Dq J G cf aD (.ptr i0 0) v4 (.slice i7 0 1 1 true 1) (.int .i64 1) h8) (fun QN O6=>
 j9 QN O6)) (fun Na Rg=>
 some (Na,Rg))
theorem ahh {a0 a1:AV}{H:Hp}{r:AV × Hp}(h:T9 JN GO cK a0 a1 H=some r):cK (.func (.func 156) [] []) [a0,a1] H=some r:=aS (first:=[]) (cap:=[]) (aal (by kernel_rfl) h)
noncomputable def Ai (J:JT)(G:GT)(cf:CF)(j9:K.Fn 3)(aD:K.Fn 5)(bG bo ba bf bp:AV)(bD:Hp):R:=
 B1 (cx bp bf) fun eH=>
 CD eH (
 J 5 (fun fZ=>
 J 5 (fun bO=>
 J 7 (fun aF=>
 B1 (aA 2 bG bD) fun v21=>
 B2 (cf (.func (.func 156) [] []) [v21,bp] bD) fun v22 cB=>
 B1 (ia 1 v22 bp) fun v24=>
 B1 (ld v24 cB) fun v25=>
 aF bG bo ba bp v25 bf bp cB) (fun bX bT dh eK dE bZ eT ns=>
 J 8 (fun kM=>
 B1 (mU dE (.int .i64 0)) fun v35=>
 G v35 true (fun k36=>
 k36 dh ns) (fun v37 fL=>
 G v35 true (fun NY=>
 B1 (bF v37 (.int .i64 0)) fun v40=>
 NY v40 fL) (fun v41 gj=>
 G v35 true (fun Sh=>
 Sh v41 gj) (fun v44 nB=>
 G v44 false (fun PQ=>
 PQ dE nB) (fun je ng=>
 G v44 false (fun LR=>
 LR dh ng) (fun ij ml=>
 G v44 false (fun Mf=>
 B1 (cx je ij) fun v53=>
 Mf v53 ml) (fun iy kj=>
 G v35 true (fun Es=>
 B1 (pk v44 (.bool true) iy) fun v57=>
 Es v57 kj) (fun lN AS=>
 B1 (pk v35 lN (.bool false)) fun fW=>
 kM bX bT dh eK dE bZ eT fW AS) kj) ml) ng) nB) gj) fL) ns) (fun dK jH jB fq eO my iA jU tS=>
 CD jU (
 bO dK fq eO my iA tS) (
 bO dK jH jB my iA tS)))) (fun lW sF sM gY iH rS=>
 fZ lW sF sM gY iH rS)) (fun gC fc fe pF nq tw=>
 B1 (bS nq (.int .i64 1)) fun mM=>
 aD gC fc fe pF mM tw)) (
 j9 bG bo ba bD)
noncomputable def FR (J:JT)(G:GT)(cf:CF)(j9:K.Fn 3):K.Fn 5:=dZ P an J G cf 126 [1,1,1,0,1,0,0] [1,3,4,15,16] (fun q t H=>match Nat.beq q 0 with | true=>app 3 j9 (ax [1,3,4] t) H | false=>(fun _ _ _=>none) q t H)
theorem aoJ (J:JT)(G:GT)(cf:CF)(j9:K.Fn 3)(aD:K.Fn 5)(bG bo ba bf bp:AV)(bD:Hp):lB P an J G cf 126 [1,1,1,0,1,0,0] [1,3,4,15,16] (fun q t H=>match Nat.beq q 0 with | true=>app 3 j9 (ax [1,3,4] t) H | false=>(fun _ _ _=>none) q t H) aD [bG,bo,ba,bf,bp] bD=Ai J G cf j9 aD bG bo ba bf bp bD:=by kernel_rfl
theorem Ee (cf:CF)(j9:K.Fn 3)(bG bo ba bf bp:AV)(bD:Hp):FR JN GO cf j9 bG bo ba bf bp bD=Ai JN GO cf j9 (FR JN GO cf j9) bG bo ba bf bp bD:=aal (b:=app 5 (FR JN GO cf j9) [bG,bo,ba,bf,bp] bD) (by kernel_rfl) ((eU cf _ _ _ _ [bG,bo,ba,bf,bp] rfl bD).trans (aoJ JN GO cf j9 _ bG bo ba bf bp bD))
noncomputable def BP (J:JT)(G:GT)(cf:CF)(iF:K.Fn 1)(mo:K.Fn 4)(la:K.Fn 4)(IS:K.Fn 7)(jI iD iu iX kf nA jW:AV)(lH:Hp):R:=
 B1 (cx jW nA) fun P4=>
 CD P4 (
 J 7 (fun aiq=>
 B1 (ia 1 kf jW) fun Oh=>
 B1 (ld Oh lH) fun GU=>
 J 9 (fun RM=>
 B1 (il GU iD) fun v139=>
 G v139 true (fun anS=>
 B1 (aA 2 jI lH) fun v141=>
 anS v141 lH) (fun Ac zN=>
 G v139 true (fun Qd=>
 Qd GU zN) (fun v145 yM=>
 G v139 true (fun ajv=>
 B2 (cf (.func (.func 156) [] []) [Ac,v145] yM) fun v148 aeI=>
 ajv v148 aeI) (fun RC WW=>
 G v139 true (fun akH=>
 akH iD WW) (fun Su Jj=>
 G v139 true (fun acP=>
 B1 (ia 1 RC Su) fun QV=>
 acP QV Jj) (fun v157 Qr=>
 G v139 true (fun acZ=>
 B1 (ld v157 Qr) fun v160=>
 acZ v160 Qr) (fun Pv UN=>
 G v139 true (fun acs=>
 acs iX UN) (fun v164 nY=>
 G v139 true (fun aiN=>
 B1 (bF Pv v164) fun v167=>
 aiN v167 nY) (fun v168 ago=>
 B1 (pk v139 v168 (.bool false)) fun zF=>
 RM jI iD iu iX GU kf nA jW zF ago) nY) UN) Qr) Jj) WW) yM) zN) lH) (fun Wa BH zu C8 Bb Qv R4 QN OY Le=>
 CD OY (
 B1 (fl [(.int .i64 0)] [(0,1,Bb)]) fun aiw=>
 BN (aE Le aiw 3 0) fun i182 aff=>
 B2 (gg 3 1 [(.int .i64 0)] false zu (.slice i182 0 1 1 true 1) aff) fun Nh Mh=>
 la Wa BH Nh C8 Mh) (
 aiq Wa BH zu C8 Qv R4 QN Le))) (fun zt On Ov Mq NC Sj aoN PD=>
 B1 (bS aoN (.int .i64 1)) fun v194=>
 IS zt On Ov Mq NC Sj v194 PD)) (
 la jI iD iu iX lH)
noncomputable def Ia (J:JT)(G:GT)(cf:CF)(iF:K.Fn 1)(mo:K.Fn 4)(la:K.Fn 4):K.Fn 7:=dZ P an J G cf 126 [1,1,1,1,1,1,0,1,0,0,1,0,0,1,0,0] [1,3,7,8,56,57,58] (fun q t H=>match Nat.beq q 4 with | true=>app 4 la (ax [1,3,7,8] t) H | false=>(fun q t H=>match Nat.beq q 3 with | true=>app 4 mo (ax [1,3,7,8] t) H | false=>(fun q t H=>match Nat.beq q 2 with | true=>app 1 iF (ax [7] t) H | false=>(fun _ _ _=>none) q t H) q t H) q t H)
theorem acm (J:JT)(G:GT)(cf:CF)(iF:K.Fn 1)(mo:K.Fn 4)(la:K.Fn 4)(IS:K.Fn 7)(jI iD iu iX kf nA jW:AV)(lH:Hp):lB P an J G cf 126 [1,1,1,1,1,1,0,1,0,0,1,0,0,1,0,0] [1,3,7,8,56,57,58] (fun q t H=>match Nat.beq q 4 with | true=>app 4 la (ax [1,3,7,8] t) H | false=>(fun q t H=>match Nat.beq q 3 with | true=>app 4 mo (ax [1,3,7,8] t) H | false=>(fun q t H=>match Nat.beq q 2 with | true=>app 1 iF (ax [7] t) H | false=>(fun _ _ _=>none) q t H) q t H) q t H) IS [jI,iD,iu,iX,kf,nA,jW] lH=BP J G cf iF mo la IS jI iD iu iX kf nA jW lH:=by kernel_rfl
theorem Li (cf:CF)(iF:K.Fn 1)(mo:K.Fn 4)(la:K.Fn 4)(jI iD iu iX kf nA jW:AV)(lH:Hp):Ia JN GO cf iF mo la jI iD iu iX kf nA jW lH=BP JN GO cf iF mo la (Ia JN GO cf iF mo la) jI iD iu iX kf nA jW lH:=aal (b:=app 7 (Ia JN GO cf iF mo la) [jI,iD,iu,iX,kf,nA,jW] lH) (by kernel_rfl) ((eU cf _ _ _ _ [jI,iD,iu,iX,kf,nA,jW] rfl lH).trans (acm JN GO cf iF mo la _ jI iD iu iX kf nA jW lH))
noncomputable def O7 (J:JT)(G:GT)(cf:CF)(iF:K.Fn 1)(Q0:K.Fn 4)(lM qX oN qu:AV)(lf:Hp):R:=
 B1 (mU qu (.int .i64 0)) fun xY=>
 CD xY (
 J 4 (fun ac6=>
 J 4 (fun mo=>
 J 7 (fun adq=>
 B1 (aA 2 lM lf) fun wH=>
 B1 (bq oN) fun v109=>
 B1 (mI v109 (.int .i64 1)) fun Qw=>
 B1 (ia 1 oN Qw) fun Ex=>
 B1 (ld Ex lf) fun FC=>
 B2 (cf (.func (.func 157) [] []) [wH,FC] lf) fun zr ahA=>
 B1 (bq zr) fun vu=>
 adq lM qX oN qu zr vu (.int .i64 0) ahA) (fun xG AP yv uQ sf sA ug Dh=>
 J 4 (fun la=>
 Ia J G cf iF mo la xG AP yv uQ sf sA ug Dh) (fun Se amI Kv Nf Lq=>
 mo Se amI Kv Nf Lq))) (fun aiz Ms AA Ab aio=>
 ac6 aiz Ms AA Ab aio)) (fun Ns LV ajk Mo apH=>
 B1 (mI Mo (.int .i64 1)) fun v210=>
 Q0 Ns LV ajk v210 apH)) (
 iF oN lf)
noncomputable def HN (J:JT)(G:GT)(cf:CF)(iF:K.Fn 1):K.Fn 4:=dZ P an J G cf 126 [1,1,1,1,1,1,0,1,0,0] [1,3,7,8] (fun q t H=>match Nat.beq q 2 with | true=>app 1 iF (ax [7] t) H | false=>(fun _ _ _=>none) q t H)
theorem Va (cf:CF)(iF:K.Fn 1)(lM qX oN qu:AV)(lf:Hp):HN JN GO cf iF lM qX oN qu lf=O7 JN GO cf iF (HN JN GO cf iF) lM qX oN qu lf:=aal (b:=app 4 (HN JN GO cf iF) [lM,qX,oN,qu] lf) (by kernel_rfl) ((eU cf 126 [1,1,1,1,1,1,0,1,0,0] [1,3,7,8] _ [lM,qX,oN,qu] rfl lf).trans (by kernel_rfl))
noncomputable def Ju (J:JT)(G:GT)(cf:CF)(a0:AV)(H:Hp):R:=
 BN (bx 201 a0 H) fun i0 h1=>
 B1 (aA 2 (.ptr i0 0) h1) fun v2=>
 B2 (cf (.func (.func 155) [] []) [v2] h1) fun v3 h4=>
 B1 (fX .not v3) fun v5=>
 CD v5 (
 some (.ah,h4)) (
 J 3 (fun j6=>
 B1 (fa 0 (.ptr i0 0)) fun v7=>
 B1 (ld v7 h4) fun v8=>
 J 3 (fun j9=>
 FR J G cf j9 (.ptr i0 0) (.int .i64 0) (.int .i64 0) v8 (.int .i64 0) h4) (fun mB pt oX xE=>
 j6 mB pt oX xE)) (fun se nf yJ yx=>
 B1 (bF yJ (.int .i64 0)) fun v91=>
 CD v91 (
 some (.ah,yx)) (
 B1 (fl [(.int .i64 0)] [(0,1,nf)]) fun l92=>
 BN (aE yx l92 3 0) fun i93 NH=>
 J 1 (fun j95=>
 B1 (mI yJ (.int .i64 1)) fun qE=>
 J 1 (fun iF=>
 HN J G cf iF se nf (.slice i93 0 1 1 true 1) qE NH) (fun OW Ax=>
 j95 OW Ax)) (fun alD L1=>
 some (alD,L1)))))
theorem afu (J:JT)(G:GT)(cf:CF)(a0:AV)(H:Hp):fK P J G aQ an cf 126 [a0] H=Ju J G cf a0 H:=by kernel_rfl
theorem aa2 {a0:AV}{H:Hp}{r:AV × Hp}(h:Ju JN GO cK a0 H=some r):cK (.func (.func 126) [] []) [a0] H=some r:=aS (first:=[]) (cap:=[]) ((afu JN GO _ a0 H).trans h)
noncomputable def VI (J:JT)(G:GT)(cf:CF)(a0:AV)(H:Hp):R:=
 B1 (qN a0 (.str [])) fun v0=>
 G v0 true (fun k1=>
 k1 a0 H) (fun v2 h3=>
 G v0 true (fun k4=>
 B1 (lens v2) fun v5=>
 k4 v5 h3) (fun v6 h7=>
 G v0 true (fun k8=>
 B1 (oh v6 (.int .i64 16)) fun v9=>
 k8 v9 h7) (fun v10 gU=>
 B1 (pk v0 v10 (.bool false)) fun v12=>
 G v12 true (fun k13=>
 k13 a0 gU) (fun cI eV=>
 G v12 true (fun QP=>
 B2 (cf (.func (.func 91) [] []) [cI,(.str [97,98,99,100,101,102,103,104,105,106,107,108,109,110,111,112,113,114,115,116,117,118,119,120,121,122,48,49,50,51,52,53,54,55,56,57])] eV) fun eH eY=>
 QP eH eY) (fun gW pn=>
 G v12 true (fun k21=>
 B1 (seq gW (.str [])) fun v22=>
 k21 v22 pn) (fun v23 jh=>
 B1 (pk v12 v23 (.bool false)) fun v25=>
 some (v25,jh)) pn) eV) gU) h7) h3) H
theorem ahR {a0:AV}{H:Hp}{r:AV × Hp}(h:VI JN GO cK a0 H=some r):cK (.func (.func 54) [] []) [a0] H=some r:=aS (first:=[]) (cap:=[]) (aal (by kernel_rfl) h)
noncomputable def Dy (J:JT)(G:GT)(cf:CF)(a0:AV)(H:Hp):R:=
 J 1 (fun j0=>
 B1 (lens a0) fun v1=>
 B1 (mU v1 (.int .i64 4)) fun v2=>
 CD v2 (
 some (.tuple [(.int .i64 0),(.bool false)],H)) (
 j0 a0 H)) (fun x3 h4=>
 J 3 (fun j5=>
 B2 (cf (.func (.func 173) [] []) [x3] h4) fun v6 h7=>
 B1 (ex 0 v6) fun v8=>
 B1 (ex 1 v6) fun v9=>
 j5 x3 v8 v9 h7) (fun dA bG bo iP=>
 sJ (gA P .eql 183 true bo .nilIface) <| B1 (eG P .eql 183 bo .nilIface iP) fun cI=>
 G cI true (fun wJ=>
 wJ bG iP) (fun c8 dI=>
 G cI true (fun k18=>
 B2 (cf (.func (.func 84) [] []) [c8] dI) fun gW pn=>
 k18 gW pn) (fun v21 lR=>
 G cI true (fun PF=>
 PF dA lR) (fun v24 dC=>
 G cI true (fun OU=>
 B1 (seq v21 v24) fun v27=>
 OU v27 dC) (fun v28 dR=>
 B1 (pk cI v28 (.bool false)) fun v30=>
 G v30 true (fun Eg=>
 Eg bG dR) (fun v32 ns=>
 G v30 true (fun k34=>
 B1 (lS v32 (.int .i64 0)) fun v35=>
 k34 v35 ns) (fun v36 iw=>
 B1 (pk v30 v36 (.bool false)) fun jK=>
 some (.tuple [bG,jK],iw)) ns) dR) dC) lR) dI) iP))
theorem G7 {a0:AV}{H:Hp}{r:AV × Hp}(h:Dy JN GO cK a0 H=some r):cK (.func (.func 153) [] []) [a0] H=some r:=aS (first:=[]) (cap:=[]) (aal (by kernel_rfl) h)
noncomputable def Cg (J:JT)(G:GT)(cf:CF)(eN:K.Fn 1)(bO:K.Fn 0)(aF:K.Fn 5)(aU aN bc bC bB:AV)(dW:Hp):R:=
 B1 (cx bB bC) fun v27=>
 CD v27 (
 J 5 (fun jP=>
 B1 (ia 1 bc bB) fun v29=>
 B1 (ld v29 dW) fun v30=>
 B2 (cf (.func (.func 104) [] []) [aN,v30] dW) fun v31 eF=>
 B1 (cx v31 (.int .i64 0)) fun fM=>
 CD fM (
 some ((.bool false),eF)) (
 B1 (aV aU) fun dJ=>
 B1 (fa 1 dJ) fun v35=>
 B1 (ld v35 eF) fun v36=>
 B1 (fl [(.int .i64 0)] [(0,1,v31)]) fun Hg=>
 BN (aE eF Hg 3 0) fun i38 rQ=>
 B2 (gg 3 1 [(.int .i64 0)] false v36 (.slice i38 0 1 1 true 1) rQ) fun v40 gR=>
 B1 (aV aU) fun fw=>
 B1 (fa 1 fw) fun gu=>
 B1 (st 1 gu v40 gR) fun ef=>
 jP aU aN bc bC bB ef)) (fun fC iM fQ fF fS mY=>
 B1 (bS fS (.int .i64 1)) fun v51=>
 aF fC iM fQ fF v51 mY)) (
 bO  dW)
noncomputable def Di (J:JT)(G:GT)(cf:CF)(eN:K.Fn 1)(bO:K.Fn 0):K.Fn 5:=dZ P an J G cf 118 [1,1,0,1,0,1,0,0,1,0,0] [0,3,23,24,25] (fun q t H=>match Nat.beq q 1 with | true=>app 0 bO (ax [] t) H | false=>(fun q t H=>match Nat.beq q 0 with | true=>app 1 eN (ax [10] t) H | false=>(fun _ _ _=>none) q t H) q t H)
theorem ajA (J:JT)(G:GT)(cf:CF)(eN:K.Fn 1)(bO:K.Fn 0)(aF:K.Fn 5)(aU aN bc bC bB:AV)(dW:Hp):lB P an J G cf 118 [1,1,0,1,0,1,0,0,1,0,0] [0,3,23,24,25] (fun q t H=>match Nat.beq q 1 with | true=>app 0 bO (ax [] t) H | false=>(fun q t H=>match Nat.beq q 0 with | true=>app 1 eN (ax [10] t) H | false=>(fun _ _ _=>none) q t H) q t H) aF [aU,aN,bc,bC,bB] dW=Cg J G cf eN bO aF aU aN bc bC bB dW:=by kernel_rfl
theorem K5 (cf:CF)(eN:K.Fn 1)(bO:K.Fn 0)(aU aN bc bC bB:AV)(dW:Hp):Di JN GO cf eN bO aU aN bc bC bB dW=Cg JN GO cf eN bO (Di JN GO cf eN bO) aU aN bc bC bB dW:=aal (b:=app 5 (Di JN GO cf eN bO) [aU,aN,bc,bC,bB] dW) (by kernel_rfl) ((eU cf _ _ _ _ [aU,aN,bc,bC,bB] rfl dW).trans (ajA JN GO cf eN bO _ aU aN bc bC bB dW))
noncomputable def uG (J:JT)(G:GT)(cf:CF)(a0 a1 a2 a3:AV)(H:Hp):R:=
 J 6 (fun j0=>
 B2 (cf (.func (.func 153) [] []) [a2] H) fun v1 h2=>
 B1 (ex 0 v1) fun v3=>
 B1 (ex 1 v1) fun v4=>
 j0 a0 a1 a2 a3 v3 v4 h2) (fun x5 x6 x7 x8 x9 dA gU=>
 J 1 (fun cH=>
 J 1 (fun eN=>
 B1 (seq x6 (.str [97,102,116,101,114])) fun cI=>
 CD cI (
 J 0 (fun jg=>
 B2 (cf (.func (.func 88) [] []) [x7,(.str [44])] gU) fun c8 dI=>
 B1 (bq c8) fun dy=>
 J 0 (fun bO=>
 Di J G cf eN bO x5 x8 c8 dy (.int .i64 0) dI) (fun  nO=>
 jg  nO)) (fun  ir=>
 some ((.bool true),ir))) (
 B1 (seq x6 (.str [114,101,116,114,121])) fun iy=>
 CD iy (
 B1 (aV x5) fun jD=>
 B1 (fa 2 jD) fun kU=>
 B1 (st 1 kU x9 gU) fun jv=>
 eN dA jv) (
 B1 (seq x6 (.str [119,97,105,116])) fun lN=>
 CD lN (
 B1 (aV x5) fun v59=>
 B1 (fa 3 v59) fun fW=>
 B1 (st 1 fW x9 gU) fun gD=>
 eN dA gD) (
 B1 (seq x6 (.str [98,97,115,101])) fun gM=>
 CD gM (
 B1 (aV x5) fun v63=>
 B1 (fa 4 v63) fun v64=>
 B1 (st 1 v64 x9 gU) fun mL=>
 eN dA mL) (
 B1 (seq x6 (.str [111,110])) fun ma=>
 CD ma (
 J 1 (fun zV=>
 B1 (aV x5) fun mE=>
 B1 (fa 5 mE) fun jo=>
 B1 (st 1 jo x7 gU) fun tW=>
 zV x7 tW) (fun sF pg=>
 B1 (qN sF (.str [])) fun kP=>
 some (kP,pg))) (
 eN dA gU)))))) (fun iH rS=>
 cH iH rS)) (fun gC Cp=>
 some (gC,Cp)))
theorem ame (J:JT)(G:GT)(cf:CF)(a0 a1 a2 a3:AV)(H:Hp):fK P J G aQ an cf 118 [a0,a1,a2,a3] H=uG J G cf a0 a1 a2 a3 H:=by kernel_rfl
theorem Bj {a0 a1 a2 a3:AV}{H:Hp}{r:AV × Hp}(h:uG JN GO cK a0 a1 a2 a3 H=some r):cK (.func (.func 118) [] []) [a0,a1,a2,a3] H=some r:=aS (first:=[]) (cap:=[]) ((ame JN GO _ a0 a1 a2 a3 H).trans h)
noncomputable def yt (J:JT)(G:GT)(cf:CF)(aF:K.Fn 2)(eP:K.Fn 7)(aN bc bC bB bX bT dh:AV)(dR:Hp):R:=
 B1 (cx dh bT) fun v30=>
 CD v30 (
 J 7 (fun cn=>
 B1 (ia 1 bX dh) fun v32=>
 B1 (ld v32 dR) fun fM=>
 J 10 (fun kM=>
 B2 (cf (.func (.func 117) [] []) [fM,(.str [61])] dR) fun v35 na=>
 B1 (ex 0 v35) fun v37=>
 B1 (ex 1 v35) fun jK=>
 B1 (ex 2 v35) fun eM=>
 kM aN bc bC bB fM v37 jK bX bT dh na) (fun cp dD eI dP iK fC iM fQ fF fS mY=>
 B2 (cf (.func (.func 104) [] []) [dP,fC] mY) fun v51 nO=>
 J 8 (fun Qp=>
 J 9 (fun eh=>
 B1 (cx v51 (.int .i64 0)) fun jD=>
 G jD false (fun Es=>
 Es fC nO) (fun v57 pj=>
 G jD false (fun Nx=>
 B1 (lens v57) fun fW=>
 Nx fW pj) (fun mR hY=>
 G jD false (fun k63=>
 k63 iK hY) (fun v64 mL=>
 G jD false (fun O4=>
 B1 (lens v64) fun nX=>
 O4 nX mL) (fun mE tS=>
 G jD false (fun Sd=>
 B1 (bF mR mE) fun nP=>
 Sd nP tS) (fun v72 IZ=>
 B1 (pk jD (.bool true) v72) fun jO=>
 G jO false (fun k75=>
 k75 fC IZ) (fun v76 Cp=>
 G jO false (fun k78=>
 k78 iM Cp) (fun qR yG=>
 G jO false (fun k81=>
 k81 cp yG) (fun mM py=>
 G jO false (fun GH=>
 B2 (cf (.func (.func 118) [] []) [eI,v76,qR,mM] py) fun v85 xE=>
 GH v85 xE) (fun v87 Eu=>
 G jO false (fun k89=>
 B1 (fX .not v87) fun qa=>
 k89 qa Eu) (fun v91 xP=>
 B1 (pk jO (.bool true) v91) fun v93=>
 eh cp dD eI dP v51 fQ fF fS v93 xP) Eu) py) yG) Cp) IZ) tS) mL) hY) pj) nO) (fun kq kI mG nZ qB lM qX oN qu lf=>
 CD qu (
 B1 (fl [(.str []),.ah,(.int .i64 0),(.int .i64 0),(.int .i64 0),(.str [])] []) fun EO=>
 B1 (st 6 kI (.agg EO) lf) fun z8=>
 B1 (aA 6 kI z8) fun zz=>
 some (.tuple [zz,(.bool false)],z8)) (
 Qp kq kI mG nZ qB lM qX oN lf))) (fun nh mC gP nG oG sD rO qW Ag=>
 B1 (bS oG (.int .i64 1)) fun AM=>
 B1 (qi 1 nG (some AM) none none) fun v117=>
 cn nh mC gP v117 sD rO qW Ag))) (fun yv uQ sf sA ug xd AL Fi=>
 B1 (bS AL (.int .i64 1)) fun Sr=>
 eP yv uQ sf sA ug xd Sr Fi)) (
 aF bc bC dR)
noncomputable def BV (J:JT)(G:GT)(cf:CF)(aF:K.Fn 2):K.Fn 7:=dZ P an J G cf 89 [1,1,1,0,1,0,0] [1,4,6,7,20,21,22] (fun q t H=>match Nat.beq q 0 with | true=>app 2 aF (ax [4,6] t) H | false=>(fun _ _ _=>none) q t H)
theorem am5 (J:JT)(G:GT)(cf:CF)(aF:K.Fn 2)(eP:K.Fn 7)(aN bc bC bB bX bT dh:AV)(dR:Hp):lB P an J G cf 89 [1,1,1,0,1,0,0] [1,4,6,7,20,21,22] (fun q t H=>match Nat.beq q 0 with | true=>app 2 aF (ax [4,6] t) H | false=>(fun _ _ _=>none) q t H) eP [aN,bc,bC,bB,bX,bT,dh] dR=yt J G cf aF eP aN bc bC bB bX bT dh dR:=by kernel_rfl
theorem Dp (cf:CF)(aF:K.Fn 2)(aN bc bC bB bX bT dh:AV)(dR:Hp):BV JN GO cf aF aN bc bC bB bX bT dh dR=yt JN GO cf aF (BV JN GO cf aF) aN bc bC bB bX bT dh dR:=aal (b:=app 7 (BV JN GO cf aF) [aN,bc,bC,bB,bX,bT,dh] dR) (by kernel_rfl) ((eU cf _ _ _ _ [aN,bc,bC,bB,bX,bT,dh] rfl dR).trans (am5 JN GO cf aF _ aN bc bC bB bX bT dh dR))
noncomputable def Ix (J:JT)(G:GT)(cf:CF)(a0 a1:AV)(H:Hp):R:=
 BN (aE H [(.str []),.ah,(.int .i64 0),(.int .i64 0),(.int .i64 0),(.str [])] 99 0) fun i0 h1=>
 J 4 (fun j2=>
 B1 (ia 1 a0 (.int .i64 0)) fun v3=>
 B1 (ld v3 h1) fun v4=>
 B1 (fl [(.str []),.ah,(.int .i64 0),(.int .i64 0),(.int .i64 0),(.str [])] [(0,1,v4),(3,1,(.int .i64 10)),(4,1,(.int .i64 1))]) fun l5=>
 BN (aE h1 [(.str []),.ah,(.int .i64 0),(.int .i64 0),(.int .i64 0),(.str [])] 99 0) fun i6 h7=>
 B1 (st 6 (.ptr i6 0) (.agg l5) h7) fun h8=>
 j2 a0 a1 (.ptr i0 0) (.ptr i6 0) h8) (fun x9 dA bG bo iP=>
 B1 (fl [(.str []),(.str []),(.str []),(.str []),(.str [])] [(0,1,(.str [97,102,116,101,114])),(1,1,(.str [114,101,116,114,121])),(2,1,(.str [119,97,105,116])),(3,1,(.str [98,97,115,101])),(4,1,(.str [111,110]))]) fun l14=>
 BN (aE iP l14 9 0) fun i15 bD=>
 J 2 (fun nI=>
 B1 (qi 1 x9 (some (.int .i64 1)) none none) fun dy=>
 B1 (bq dy) fun gW=>
 J 2 (fun aF=>
 BV J G cf aF dA bG bo (.slice i15 0 5 5 true 1) dy gW (.int .i64 0) bD) (fun iD iu NB=>
 nI iD iu NB)) (fun kf nA CA=>
 B1 (aA 6 nA CA) fun Gw=>
 B1 (st 6 kf Gw CA) fun wj=>
 B1 (aA 6 kf wj) fun amP=>
 some (.tuple [amP,(.bool true)],wj)))
theorem aod (J:JT)(G:GT)(cf:CF)(a0 a1:AV)(H:Hp):fK P J G aQ an cf 89 [a0,a1] H=Ix J G cf a0 a1 H:=by kernel_rfl
theorem Vf {a0 a1:AV}{H:Hp}{r:AV × Hp}(h:Ix JN GO cK a0 a1 H=some r):cK (.func (.func 89) [] []) [a0,a1] H=some r:=aS (first:=[]) (cap:=[]) ((aod JN GO _ a0 a1 H).trans h)
noncomputable def KU (J:JT)(G:GT)(cf:CF)(jg:K.Fn 3)(dB:K.Fn 6)(bW bE df cY aU aN:AV)(cB:Hp):R:=
 B1 (cx aN aU) fun v24=>
 CD v24 (
 J 6 (fun Ef=>
 B1 (ia 1 cY aN) fun v26=>
 B1 (ld v26 cB) fun v27=>
 B2 (cf (.func (.func 88) [] []) [v27,(.str [32])] cB) fun v28 dR=>
 J 7 (fun wP=>
 B1 (fl [.ah] [(0,1,v28)]) fun l31=>
 BN (aE dR l31 46 0) fun i32 ns=>
 B2 (gg 46 1 [.ah] false bE (.slice i32 0 1 1 true 1) ns) fun dJ dS=>
 wP bW dJ df v28 cY aU aN dS) (fun bN cu cG cF cp dD eI qG=>
 B1 (ia 1 cF (.int .i64 0)) fun v44=>
 B1 (ld v44 qG) fun fB=>
 B1 (fl [(.str [])] [(0,1,fB)]) fun l46=>
 BN (aE qG l46 9 0) fun i47 ng=>
 B2 (gg 9 1 [(.str [])] false cG (.slice i47 0 1 1 true 1) ng) fun v49 mY=>
 Ef bN cu v49 cp dD eI mY)) (fun gJ eD eL dU fy cL jv=>
 B1 (bS cL (.int .i64 1)) fun lN=>
 dB gJ eD eL dU fy lN jv)) (
 jg bW bE df cB)
noncomputable def EB (J:JT)(G:GT)(cf:CF)(jg:K.Fn 3):K.Fn 6:=dZ P an J G cf 53 [1,1,1,1,0,1,0,0] [2,4,5,20,21,22] (fun q t H=>match Nat.beq q 0 with | true=>app 3 jg (ax [2,4,5] t) H | false=>(fun _ _ _=>none) q t H)
theorem aim (J:JT)(G:GT)(cf:CF)(jg:K.Fn 3)(dB:K.Fn 6)(bW bE df cY aU aN:AV)(cB:Hp):lB P an J G cf 53 [1,1,1,1,0,1,0,0] [2,4,5,20,21,22] (fun q t H=>match Nat.beq q 0 with | true=>app 3 jg (ax [2,4,5] t) H | false=>(fun _ _ _=>none) q t H) dB [bW,bE,df,cY,aU,aN] cB=KU J G cf jg dB bW bE df cY aU aN cB:=by kernel_rfl
theorem abv (cf:CF)(jg:K.Fn 3)(bW bE df cY aU aN:AV)(cB:Hp):EB JN GO cf jg bW bE df cY aU aN cB=KU JN GO cf jg (EB JN GO cf jg) bW bE df cY aU aN cB:=aal (b:=app 6 (EB JN GO cf jg) [bW,bE,df,cY,aU,aN] cB) (by kernel_rfl) ((eU cf _ _ _ _ [bW,bE,df,cY,aU,aN] rfl cB).trans (aim JN GO cf jg _ bW bE df cY aU aN cB))
noncomputable def Cn (J:JT)(G:GT)(cf:CF)(kW:K.Fn 2)(tv:K.Fn 6)(gY iH ll gC fc fe:AV)(iJ:Hp):R:=
 B1 (cx fe fc) fun v80=>
 CD v80 (
 J 6 (fun j81=>
 B1 (ia 1 gC fe) fun mM=>
 B1 (ld mM iJ) fun pQ=>
 J 8 (fun NP=>
 B2 (cf (.func (.func 89) [] []) [pQ,iH] iJ) fun v85 xE=>
 B1 (ex 0 v85) fun v87=>
 B1 (ex 1 v85) fun wV=>
 BN (aE xE [(.str []),.ah,(.int .i64 0),(.int .i64 0),(.int .i64 0),(.str [])] 99 0) fun i89 yx=>
 B1 (st 6 (.ptr i89 0) v87 yx) fun wo=>
 NP gY iH ll (.ptr i89 0) wV gC fc fe wo) (fun mj mX kq kI mG nZ qB lM uT=>
 J 7 (fun Q9=>
 B1 (fX .not mG) fun rG=>
 CD rG (
 B1 (fl [.ah] []) fun Px=>
 B1 (st 1 mj (.agg Px) uT) fun yp=>
 B1 (aA 1 mj yp) fun v105=>
 some (.tuple [v105,(.int .i64 2)],yp)) (
 Q9 mj mX kq kI nZ qB lM uT)) (fun sd nh mC gP nG oG sD Ce=>
 B1 (fa 0 mC) fun xt=>
 B1 (ld xt Ce) fun vu=>
 B1 (aA 6 gP Ce) fun AM=>
 B1 (fl [(.str []),.ah,(.int .i64 0),(.int .i64 0),(.int .i64 0),(.str [])] [(0,6,AM)]) fun aey=>
 BN (aE Ce aey 99 0) fun i118 Ph=>
 B2 (gg 99 6 [(.str []),.ah,(.int .i64 0),(.int .i64 0),(.int .i64 0),(.str [])] false vu (.slice i118 0 1 1 true 6) Ph) fun zK J7=>
 B1 (fa 0 mC) fun zp=>
 B1 (st 1 zp zK J7) fun Dh=>
 j81 sd nh mC nG oG sD Dh))) (fun AL Gb jI iD iu iX ya=>
 B1 (bS iX (.int .i64 1)) fun v131=>
 tv AL Gb jI iD iu v131 ya)) (
 kW gY ll iJ)
noncomputable def B9 (J:JT)(G:GT)(cf:CF)(kW:K.Fn 2):K.Fn 6:=dZ P an J G cf 53 [1,1,1,1,1,1,0,1,0,0] [2,5,9,39,40,41] (fun q t H=>match Nat.beq q 2 with | true=>app 2 kW (ax [2,9] t) H | false=>(fun _ _ _=>none) q t H)
theorem aeq (J:JT)(G:GT)(cf:CF)(kW:K.Fn 2)(tv:K.Fn 6)(gY iH ll gC fc fe:AV)(iJ:Hp):lB P an J G cf 53 [1,1,1,1,1,1,0,1,0,0] [2,5,9,39,40,41] (fun q t H=>match Nat.beq q 2 with | true=>app 2 kW (ax [2,9] t) H | false=>(fun _ _ _=>none) q t H) tv [gY,iH,ll,gC,fc,fe] iJ=Cn J G cf kW tv gY iH ll gC fc fe iJ:=by kernel_rfl
theorem JY (cf:CF)(kW:K.Fn 2)(gY iH ll gC fc fe:AV)(iJ:Hp):B9 JN GO cf kW gY iH ll gC fc fe iJ=Cn JN GO cf kW (B9 JN GO cf kW) gY iH ll gC fc fe iJ:=aal (b:=app 6 (B9 JN GO cf kW) [gY,iH,ll,gC,fc,fe] iJ) (by kernel_rfl) ((eU cf _ _ _ _ [gY,iH,ll,gC,fc,fe] rfl iJ).trans (aeq JN GO cf kW _ gY iH ll gC fc fe iJ))
noncomputable def AB (J:JT)(G:GT)(cf:CF)(a0:AV)(H:Hp):R:=
 BN (aE H [.ah] 72 0) fun i0 h1=>
 J 2 (fun j2=>
 B1 (lens a0) fun v3=>
 B1 (mU v3 (.int .i64 1024)) fun v4=>
 CD v4 (
 B1 (fl [.ah] []) fun l5=>
 B1 (st 1 (.ptr i0 0) (.agg l5) h1) fun h6=>
 B1 (aA 1 (.ptr i0 0) h6) fun v7=>
 some (.tuple [v7,(.int .i64 14)],h6)) (
 j2 a0 (.ptr i0 0) h1)) (fun x8 x9 bU=>
 J 3 (fun lD=>
 B2 (cf (.func (.func 88) [] []) [x8,(.str [59])] bU) fun v12 iP=>
 B1 (bq v12) fun cI=>
 J 3 (fun jg=>
 EB J G cf jg x9 .ah .ah v12 cI (.int .i64 0) iP) (fun cJ eR dK hY=>
 lD cJ eR dK hY)) (fun jB fq eO fV=>
 BN (aE fV [.ah] 72 0) fun i67 xD=>
 J 2 (fun Lo=>
 B1 (bq fq) fun v70=>
 J 2 (fun kW=>
 B9 J G cf kW jB eO (.ptr i67 0) fq v70 (.int .i64 0) xD) (fun jW tP wj=>
 Lo jW tP wj)) (fun pO sN XA=>
 J 2 (fun RM=>
 B1 (aA 1 sN XA) fun v139=>
 B2 (cf (.func (.func 90) [] []) [v139] XA) fun yl Kg=>
 B1 (il yl (.int .i64 0)) fun Ac=>
 CD Ac (
 B1 (fl [.ah] []) fun ai3=>
 B1 (st 1 pO (.agg ai3) Kg) fun IQ=>
 B1 (aA 1 pO IQ) fun v145=>
 some (.tuple [v145,yl],IQ)) (
 RM pO sN Kg)) (fun Cq OI yA=>
 B1 (aA 1 OI yA) fun Fh=>
 B1 (st 1 Cq Fh yA) fun J9=>
 B1 (aA 1 Cq J9) fun St=>
 some (.tuple [St,(.int .i64 0)],J9)))))
theorem aiQ (J:JT)(G:GT)(cf:CF)(a0:AV)(H:Hp):fK P J G aQ an cf 53 [a0] H=AB J G cf a0 H:=by kernel_rfl
theorem EK {a0:AV}{H:Hp}{r:AV × Hp}(h:AB JN GO cK a0 H=some r):cK (.func (.func 53) [] []) [a0] H=some r:=aS (first:=[]) (cap:=[]) ((aiQ JN GO _ a0 H).trans h)
noncomputable def XG (J:JT)(G:GT)(cf:CF)(a0 a1 a2:AV)(H:Hp):R:=
 B1 (lS a0 a1) fun v0=>
 G v0 true (fun k1=>
 k1 a0 H) (fun v2 h3=>
 G v0 true (fun k4=>
 k4 a2 h3) (fun v5 h6=>
 G v0 true (fun k7=>
 B1 (oh v2 v5) fun v8=>
 k7 v8 h6) (fun v9 bU=>
 B1 (pk v0 v9 (.bool false)) fun v11=>
 some (v11,bU)) h6) h3) H
theorem anO {a0 a1 a2:AV}{H:Hp}{r:AV × Hp}(h:XG JN GO cK a0 a1 a2 H=some r):cK (.func (.func 119) [] []) [a0,a1,a2] H=some r:=aS (first:=[]) (cap:=[]) (aal (by kernel_rfl) h)
noncomputable def Jg (J:JT)(G:GT)(cf:CF)(j6:K.Fn 0)(j7:K.Fn 4)(x8 x9 dA bG:AV)(dT:Hp):R:=
 B1 (cx bG dA) fun dN=>
 CD dN (
 J 4 (fun Ao=>
 J 6 (fun jg=>
 B1 (ia 6 x9 bG) fun c8=>
 B1 (aA 6 c8 dT) fun eH=>
 BN (aE dT [(.str []),.ah,(.int .i64 0),(.int .i64 0),(.int .i64 0),(.str [])] 99 0) fun i18 cU=>
 B1 (st 6 (.ptr i18 0) eH cU) fun pn=>
 jg x8 bG (.ptr i18 0) x9 dA bG pn) (fun aU aN bc bC bB bX eQ=>
 B1 (aA 6 bc eQ) fun v28=>
 B2 (cf aU [aN,v28] eQ) fun v29 lE=>
 CD v29 (
 some ((.bool true),lE)) (
 Ao aU bC bB bX lE))) (fun bZ eT cw bM dS=>
 B1 (bS bM (.int .i64 1)) fun v36=>
 j7 bZ eT cw v36 dS)) (
 j6  dT)
noncomputable def EW (J:JT)(G:GT)(cf:CF)(j6:K.Fn 0):K.Fn 4:=dZ P an J G cf 125 [1,0,1,0,0] [1,8,9,10] (fun q t H=>match Nat.beq q 0 with | true=>app 0 j6 (ax [] t) H | false=>(fun _ _ _=>none) q t H)
theorem MW (cf:CF)(j6:K.Fn 0)(x8 x9 dA bG:AV)(dT:Hp):EW JN GO cf j6 x8 x9 dA bG dT=Jg JN GO cf j6 (EW JN GO cf j6) x8 x9 dA bG dT:=aal (b:=app 4 (EW JN GO cf j6) [x8,x9,dA,bG] dT) (by kernel_rfl) ((eU cf 125 [1,0,1,0,0] [1,8,9,10] _ [x8,x9,dA,bG] rfl dT).trans (by kernel_rfl))
noncomputable def TB (J:JT)(G:GT)(cf:CF)(a0 a1:AV)(H:Hp):R:=
 BN (bx 72 a0 H) fun i0 h1=>
 J 0 (fun j2=>
 B1 (fa 0 (.ptr i0 0)) fun v3=>
 B1 (ld v3 h1) fun v4=>
 B1 (bq v4) fun v5=>
 J 0 (fun j6=>
 EW J G cf j6 a1 v4 v5 (.int .i64 0) h1) (fun  iw=>
 j2  iw)) (fun  fL=>
 some ((.bool false),fL))
theorem ajS {a0 a1:AV}{H:Hp}{r:AV × Hp}(h:TB JN GO cK a0 a1 H=some r):cK (.func (.func 125) [] []) [a0,a1] H=some r:=aS (first:=[]) (cap:=[]) (aal (by kernel_rfl) h)
noncomputable def FN (J:JT)(G:GT)(cf:CF)(dq:K.Fn 1)(vp:K.Fn 4)(cu cG cF cp:AV)(gR:Hp):R:=
 B1 (cx cp cF) fun fw=>
 CD fw (
 J 4 (fun j43=>
 B1 (ia 2 cG cp) fun v44=>
 B1 (aA 2 v44 gR) fun fB=>
 BN (aE gR [.nilFunc,(.int .i64 0)] 194 0) fun i46 ka=>
 B1 (st 2 (.ptr i46 0) fB ka) fun ng=>
 B1 (aA 1 cu ng) fun v49=>
 B1 (fa 0 (.ptr i46 0)) fun ij=>
 B1 (ld ij ng) fun v51=>
 B2 (cf (.func (.func 125) [] []) [v49,v51] ng) fun iG ir=>
 CD iG (
 B1 (fa 1 (.ptr i46 0)) fun iy=>
 B1 (ld iy ir) fun jD=>
 some (jD,ir)) (
 j43 cu cG cF cp ir)) (fun cL db dd cJ kL=>
 B1 (bS cJ (.int .i64 1)) fun mR=>
 vp cL db dd mR kL)) (
 dq cu gR)
noncomputable def zQ (J:JT)(G:GT)(cf:CF)(dq:K.Fn 1):K.Fn 4:=dZ P an J G cf 90 [1,1,1,0,1,0,0] [1,18,19,20] (fun q t H=>match Nat.beq q 0 with | true=>app 1 dq (ax [1] t) H | false=>(fun _ _ _=>none) q t H)
theorem alV (J:JT)(G:GT)(cf:CF)(dq:K.Fn 1)(vp:K.Fn 4)(cu cG cF cp:AV)(gR:Hp):lB P an J G cf 90 [1,1,1,0,1,0,0] [1,18,19,20] (fun q t H=>match Nat.beq q 0 with | true=>app 1 dq (ax [1] t) H | false=>(fun _ _ _=>none) q t H) vp [cu,cG,cF,cp] gR=FN J G cf dq vp cu cG cF cp gR:=by kernel_rfl
theorem VV (cf:CF)(dq:K.Fn 1)(cu cG cF cp:AV)(gR:Hp):zQ JN GO cf dq cu cG cF cp gR=FN JN GO cf dq (zQ JN GO cf dq) cu cG cF cp gR:=aal (b:=app 4 (zQ JN GO cf dq) [cu,cG,cF,cp] gR) (by kernel_rfl) ((eU cf _ _ _ _ [cu,cG,cF,cp] rfl gR).trans (alV JN GO cf dq _ cu cG cF cp gR))
noncomputable def xz (J:JT)(G:GT)(cf:CF)(a0:AV)(H:Hp):R:=
 BN (bx 72 a0 H) fun i0 h1=>
 J 1 (fun j2=>
 J 2 (fun j3=>
 B1 (fa 0 (.ptr i0 0)) fun v4=>
 B1 (ld v4 h1) fun v5=>
 B1 (bq v5) fun v6=>
 B2 (cf (.func (.func 119) [] []) [v6,(.int .i64 1),(.int .i64 16)] h1) fun v7 h8=>
 B1 (fX .not v7) fun v9=>
 j3 (.ptr i0 0) v9 h8) (fun dA bG dT=>
 CD bG (
 some ((.int .i64 1),dT)) (
 j2 dA dT))) (fun ba ie=>
 BN (xj ie) fun i15 bD=>
 BN (aE bD [.jk] 192 0) fun i17 eY=>
 B1 (st 1 (.ptr i17 0) (.map i15) eY) fun cU=>
 J 1 (fun aF=>
 J 4 (fun eP=>
 B1 (fl [.nilFunc,(.int .i64 0)] [(0,1,(.func (.func 120) [] [])),(1,1,(.int .i64 2))]) fun Ot=>
 B1 (fl [.nilFunc,(.int .i64 0)] [(0,1,(.func (.func 121) [] [(.ptr i17 0)])),(1,1,(.int .i64 5))]) fun l23=>
 B1 (fl [.nilFunc,(.int .i64 0)] [(0,1,(.func (.func 122) [] [])),(1,1,(.int .i64 1))]) fun Rx=>
 B1 (fl [.nilFunc,(.int .i64 0)] [(0,1,(.func (.func 123) [] [ba])),(1,1,(.int .i64 1))]) fun l25=>
 B1 (fl [.nilFunc,(.int .i64 0),.nilFunc,(.int .i64 0),.nilFunc,(.int .i64 0),.nilFunc,(.int .i64 0)] [(0,2,(.agg Ot)),(2,2,(.agg l23)),(4,2,(.agg Rx)),(6,2,(.agg l25))]) fun l26=>
 BN (aE cU l26 194 0) fun i27 gH=>
 B1 (bq (.slice i27 0 4 4 true 2)) fun v29=>
 eP ba (.slice i27 0 4 4 true 2) v29 (.int .i64 0) gH) (fun dE bZ eT cw rY=>
 J 1 (fun dq=>
 zQ J G cf dq dE bZ eT cw rY) (fun jH sK=>
 aF jH sK))) (fun fq mL=>
 J 0 (fun j66=>
 J 1 (fun zV=>
 B1 (aA 1 fq mL) fun mE=>
 B2 (cf (.func (.func 127) [] []) [mE] mL) fun jo tW=>
 B2 (cf (.func (.func 126) [] []) [jo] tW) fun nP pg=>
 B1 (bq nP) fun kP=>
 B1 (mU kP (.int .i64 0)) fun jO=>
 zV jO pg) (fun ll rR=>
 CD ll (
 some ((.int .i64 7),rR)) (
 j66  rR))) (fun  Cp=>
 some ((.int .i64 0),Cp))))
theorem akE (J:JT)(G:GT)(cf:CF)(a0:AV)(H:Hp):fK P J G aQ an cf 90 [a0] H=xz J G cf a0 H:=by kernel_rfl
theorem BF {a0:AV}{H:Hp}{r:AV × Hp}(h:xz JN GO cK a0 H=some r):cK (.func (.func 90) [] []) [a0] H=some r:=aS (first:=[]) (cap:=[]) ((akE JN GO _ a0 H).trans h)
noncomputable def abf (J:JT)(G:GT)(cf:CF)(a0 a1:AV)(H:Hp):R:=
 BN (bx 99 a1 H) fun i0 h1=>
 B1 (fa 0 (.ptr i0 0)) fun v2=>
 B1 (ld v2 h1) fun v3=>
 B2 (cf (.func (.func 54) [] []) [v3] h1) fun v4 h5=>
 B1 (fX .not v4) fun v6=>
 G v6 false (fun k7=>
 B1 (fa 5 (.ptr i0 0)) fun v8=>
 k7 v8 h5) (fun v9 bU=>
 G v6 false (fun Aa=>
 B1 (ld v9 bU) fun v12=>
 Aa v12 bU) (fun dN ie=>
 G v6 false (fun wJ=>
 B1 (qN dN (.str [])) fun c8=>
 wJ c8 ie) (fun eH eY=>
 G v6 false (fun HC=>
 HC eH eY) (fun v20 lg=>
 G v20 true (fun Rb=>
 B1 (fa 5 (.ptr i0 0)) fun v23=>
 Rb v23 lg) (fun v24 dC=>
 G v20 true (fun OU=>
 B1 (ld v24 dC) fun v27=>
 OU v27 dC) (fun v28 dR=>
 G v20 true (fun Ii=>
 B2 (cf (.func (.func 54) [] []) [v28] dR) fun v31 eF=>
 Ii v31 eF) (fun fM rY=>
 G v20 true (fun A9=>
 B1 (fX .not fM) fun v36=>
 A9 v36 rY) (fun v37 fL=>
 G v6 false (fun NY=>
 B1 (pk v20 v37 (.bool false)) fun v40=>
 NY v40 fL) (fun v41 gj=>
 B1 (pk v6 (.bool true) v41) fun gu=>
 some (gu,gj)) fL) rY) dR) dC) lg) eY) ie) bU) h5
theorem ad4 {a0 a1:AV}{H:Hp}{r:AV × Hp}(h:abf JN GO cK a0 a1 H=some r):cK (.func (.func 120) [] []) [a0,a1] H=some r:=aS (first:=[]) (cap:=[]) (aal (by kernel_rfl) h)
noncomputable def OA (J:JT)(G:GT)(cf:CF)(a0 a1 a2:AV)(H:Hp):R:=
 BN (bx 99 a1 H) fun i0 h1=>
 J 3 (fun j2=>
 B1 (ld a2 h1) fun v3=>
 B1 (fa 0 (.ptr i0 0)) fun v4=>
 B1 (ld v4 h1) fun v5=>
 B1 (ue .str (.bool false) false v3 v5 h1) fun v6=>
 j2 a2 (.ptr i0 0) v6 h1) (fun x7 x8 x9 bU=>
 B1 (ld x7 bU) fun v11=>
 B1 (fa 0 x8) fun v12=>
 B1 (ld v12 bU) fun dN=>
 B1 (tT .str v11 dN (.bool true) bU) fun ie=>
 some (x9,ie))
theorem T6 {a0 a1 a2:AV}{H:Hp}{r:AV × Hp}(h:OA JN GO cK a0 a1 a2 H=some r):cK (.func (.func 121) [] [a2]) [a0,a1] H=some r:=aS (first:=[]) (cap:=[a2]) (aal (by kernel_rfl) h)
noncomputable def UA (J:JT)(G:GT)(cf:CF)(a0 a1:AV)(H:Hp):R:=
 BN (bx 99 a1 H) fun i0 h1=>
 B1 (fa 2 (.ptr i0 0)) fun v2=>
 B1 (ld v2 h1) fun v3=>
 B2 (cf (.func (.func 119) [] []) [v3,(.int .i64 0),(.int .i64 8)] h1) fun v4 h5=>
 B1 (fX .not v4) fun v6=>
 G v6 false (fun k7=>
 B1 (fa 3 (.ptr i0 0)) fun v8=>
 k7 v8 h5) (fun v9 bU=>
 G v6 false (fun Aa=>
 B1 (ld v9 bU) fun v12=>
 Aa v12 bU) (fun dN ie=>
 G v6 false (fun wJ=>
 B2 (cf (.func (.func 119) [] []) [dN,(.int .i64 1),(.int .i64 1000)] ie) fun c8 dI=>
 wJ c8 dI) (fun dy cU=>
 G v6 false (fun Qx=>
 B1 (fX .not dy) fun v21=>
 Qx v21 cU) (fun v22 cB=>
 B1 (pk v6 (.bool true) v22) fun v24=>
 G v24 false (fun k25=>
 B1 (fa 4 (.ptr i0 0)) fun v26=>
 k25 v26 cB) (fun v27 gH=>
 G v24 false (fun Pm=>
 B1 (ld v27 gH) fun v30=>
 Pm v30 gH) (fun v31 eF=>
 G v24 false (fun Fj=>
 B2 (cf (.func (.func 119) [] []) [v31,(.int .i64 1),(.int .i64 1000)] eF) fun dJ dS=>
 Fj dJ dS) (fun v36 iw=>
 G v24 false (fun xq=>
 B1 (fX .not v36) fun eM=>
 xq eM iw) (fun v40 gR=>
 B1 (pk v24 (.bool true) v40) fun fw=>
 some (fw,gR)) iw) eF) gH) cB) cU) ie) bU) h5
theorem aoQ {a0 a1:AV}{H:Hp}{r:AV × Hp}(h:UA JN GO cK a0 a1 H=some r):cK (.func (.func 122) [] []) [a0,a1] H=some r:=aS (first:=[]) (cap:=[]) (aal (by kernel_rfl) h)
noncomputable def X7 (J:JT)(G:GT)(cf:CF)(a0 a1 a2:AV)(H:Hp):R:=
 BN (bx 99 a1 H) fun i0 h1=>
 B1 (aA 1 a2 h1) fun v2=>
 B1 (fa 1 (.ptr i0 0)) fun v3=>
 B1 (ld v3 h1) fun v4=>
 B2 (cf (.func (.func 124) [] []) [v2,a0,v4] h1) fun v5 h6=>
 B1 (fX .not v5) fun v7=>
 some (v7,h6)
theorem ajy {a0 a1 a2:AV}{H:Hp}{r:AV × Hp}(h:X7 JN GO cK a0 a1 a2 H=some r):cK (.func (.func 123) [] [a2]) [a0,a1] H=some r:=aS (first:=[]) (cap:=[a2]) (aal (by kernel_rfl) h)
noncomputable def AY (J:JT)(G:GT)(cf:CF)(j4:K.Fn 0)(j5:K.Fn 6)(x6 x7 x8 x9 dA bG:AV)(dT:Hp):R:=
 B1 (cx bG dA) fun dN=>
 CD dN (
 J 6 (fun Ao=>
 J 8 (fun jg=>
 B1 (ia 1 x9 bG) fun c8=>
 B1 (ld c8 dT) fun eH=>
 jg x6 x7 x8 bG eH x9 dA bG dT) (fun bE df cY aU aN bc bC bB dW=>
 J 7 (fun xM=>
 B1 (fa 0 cY) fun v28=>
 B1 (ld v28 dW) fun v29=>
 B1 (bq v29) fun v30=>
 B1 (mI v30 (.int .i64 1)) fun v31=>
 B2 (cf (.func (.func 119) [] []) [aN,(.int .i64 0),v31] dW) fun v32 ns=>
 B1 (fX .not v32) fun dJ=>
 G dJ false (fun A9=>
 A9 aN ns) (fun v36 iw=>
 G dJ false (fun xq=>
 xq bE iw) (fun eM kB=>
 G dJ false (fun Hs=>
 B1 (bF v36 eM) fun fw=>
 Hs fw kB) (fun gu ef=>
 B1 (pk dJ (.bool true) gu) fun fB=>
 G fB false (fun PQ=>
 PQ df ef) (fun je ng=>
 G fB false (fun LR=>
 LR aU ng) (fun ij ml=>
 G fB false (fun Mf=>
 B1 (qi 1 je none (some ij) none) fun v53=>
 Mf v53 ml) (fun iy kj=>
 G fB false (fun Es=>
 Es aN kj) (fun v57 pj=>
 G fB false (fun Nx=>
 B2 (cf (.func (.func 154) [] []) [iy,v57] pj) fun fW gD=>
 Nx fW gD) (fun gM sK=>
 B1 (pk fB (.bool true) gM) fun v64=>
 xM bE df cY bc bC bB v64 sK) pj) kj) ml) ng) ef) kB) iw) ns) (fun eO my iA jU mf lW sF pg=>
 CD sF (
 some ((.bool false),pg)) (
 Ao eO my iA jU mf lW pg)))) (fun gY iH ll gC fc fe iJ=>
 B1 (bS fe (.int .i64 1)) fun v80=>
 j5 gY iH ll gC fc v80 iJ)) (
 j4  dT)
noncomputable def FJ (J:JT)(G:GT)(cf:CF)(j4:K.Fn 0):K.Fn 6:=dZ P an J G cf 124 [1,0,1,0,0] [1,2,3,9,10,11] (fun q t H=>match Nat.beq q 0 with | true=>app 0 j4 (ax [] t) H | false=>(fun _ _ _=>none) q t H)
theorem ad3 (J:JT)(G:GT)(cf:CF)(j4:K.Fn 0)(j5:K.Fn 6)(x6 x7 x8 x9 dA bG:AV)(dT:Hp):lB P an J G cf 124 [1,0,1,0,0] [1,2,3,9,10,11] (fun q t H=>match Nat.beq q 0 with | true=>app 0 j4 (ax [] t) H | false=>(fun _ _ _=>none) q t H) j5 [x6,x7,x8,x9,dA,bG] dT=AY J G cf j4 j5 x6 x7 x8 x9 dA bG dT:=by kernel_rfl
theorem aas (cf:CF)(j4:K.Fn 0)(x6 x7 x8 x9 dA bG:AV)(dT:Hp):FJ JN GO cf j4 x6 x7 x8 x9 dA bG dT=AY JN GO cf j4 (FJ JN GO cf j4) x6 x7 x8 x9 dA bG dT:=aal (b:=app 6 (FJ JN GO cf j4) [x6,x7,x8,x9,dA,bG] dT) (by kernel_rfl) ((eU cf _ _ _ _ [x6,x7,x8,x9,dA,bG] rfl dT).trans (ad3 JN GO cf j4 _ x6 x7 x8 x9 dA bG dT))
noncomputable def PN (J:JT)(G:GT)(cf:CF)(a0 a1 a2:AV)(H:Hp):R:=
 BN (bx 72 a0 H) fun i0 h1=>
 J 0 (fun j2=>
 B1 (bq a2) fun v3=>
 J 0 (fun j4=>
 FJ J G cf j4 a1 a2 (.ptr i0 0) a2 v3 (.int .i64 0) h1) (fun  tw=>
 j2  tw)) (fun  vE=>
 some ((.bool true),vE))
theorem aeN (J:JT)(G:GT)(cf:CF)(a0 a1 a2:AV)(H:Hp):fK P J G aQ an cf 124 [a0,a1,a2] H=PN J G cf a0 a1 a2 H:=by kernel_rfl
theorem acw {a0 a1 a2:AV}{H:Hp}{r:AV × Hp}(h:PN JN GO cK a0 a1 a2 H=some r):cK (.func (.func 124) [] []) [a0,a1,a2] H=some r:=aS (first:=[]) (cap:=[]) ((aeN JN GO _ a0 a1 a2 H).trans h)
noncomputable def KE (J:JT)(G:GT)(cf:CF)(aD:K.Fn 1)(aF:K.Fn 5)(gm:K.Fn 7)(Hq:K.Fn 10)(bM dG bN cu cG cF cp dD eI dP:AV)(ef:Hp):R:=
 B1 (cx dP eI) fun fB=>
 CD fB (
 J 10 (fun yH=>
 J 12 (fun xI=>
 B1 (ia 1 dD dP) fun gB=>
 B1 (ld gB ef) fun v49=>
 xI bM dG bN cu dP v49 cG cF cp dD eI dP ef) (fun gK gJ eD eL dU fy cL db dd cJ eR dK hY=>
 J 11 (fun I3=>
 B1 (bF dU (.int .i64 0)) fun v64=>
 CD v64 (
 B1 (pH eL (.str [32,97,102,116,101,114,61])) fun pw=>
 I3 gK gJ eD pw fy cL db dd cJ eR dK hY) (
 B1 (pH eL (.str [44])) fun ma=>
 I3 gK gJ eD ma fy cL db dd cJ eR dK hY)) (fun iA jU mf lW sF sM gY iH ll gC fc xg=>
 B1 (fa 0 iA) fun qR=>
 B1 (ld qR xg) fun v80=>
 B1 (ia 6 v80 sF) fun pW=>
 B1 (fa 0 pW) fun mM=>
 B1 (ld mM xg) fun pQ=>
 B1 (pH lW pQ) fun AD=>
 yH iA jU mf AD sM gY iH ll gC fc xg))) (fun oX pG se nf yJ G3 yc mj mX kq qh=>
 B1 (bS kq (.int .i64 1)) fun qE=>
 Hq oX pG se nf yJ G3 yc mj mX qE qh)) (
 gm bM dG bN cu cG cF cp ef)
noncomputable def Ew (J:JT)(G:GT)(cf:CF)(aD:K.Fn 1)(aF:K.Fn 5)(gm:K.Fn 7):K.Fn 10:=dZ P an J G cf 55 [1,1,1,0,1,0,0,1,1,0,0,1,1,0,1,0,0] [1,3,5,6,13,14,15,22,23,24] (fun q t H=>match Nat.beq q 2 with | true=>app 7 gm (ax [1,3,5,6,13,14,15] t) H | false=>(fun q t H=>match Nat.beq q 1 with | true=>app 5 aF (ax [1,3,13,14,15] t) H | false=>(fun q t H=>match Nat.beq q 0 with | true=>app 1 aD (ax [3] t) H | false=>(fun _ _ _=>none) q t H) q t H) q t H)
theorem Ps (cf:CF)(aD:K.Fn 1)(aF:K.Fn 5)(gm:K.Fn 7)(bM dG bN cu cG cF cp dD eI dP:AV)(ef:Hp):Ew JN GO cf aD aF gm bM dG bN cu cG cF cp dD eI dP ef=KE JN GO cf aD aF gm (Ew JN GO cf aD aF gm) bM dG bN cu cG cF cp dD eI dP ef:=aal (b:=app 10 (Ew JN GO cf aD aF gm) [bM,dG,bN,cu,cG,cF,cp,dD,eI,dP] ef) (by kernel_rfl) ((eU cf 55 [1,1,1,0,1,0,0,1,1,0,0,1,1,0,1,0,0] [1,3,5,6,13,14,15,22,23,24] _ [bM,dG,bN,cu,cG,cF,cp,dD,eI,dP] rfl ef).trans (by kernel_rfl))
noncomputable def Gh (J:JT)(G:GT)(cf:CF)(aD:K.Fn 1)(lD:K.Fn 5)(bo ba bf bp bH:AV)(dI:Hp):R:=
 B1 (cx bH bp) fun dy=>
 CD dy (
 J 5 (fun bO=>
 J 5 (fun aF=>
 B1 (ia 6 bf bH) fun v21=>
 B1 (aA 6 v21 dI) fun v22=>
 BN (aE dI [(.str []),.ah,(.int .i64 0),(.int .i64 0),(.int .i64 0),(.str [])] 99 0) fun i23 jh=>
 B1 (st 6 (.ptr i23 0) v22 jh) fun dC=>
 B1 (fa 0 (.ptr i23 0)) fun v26=>
 B1 (ld v26 dC) fun v27=>
 J 7 (fun jP=>
 B1 (fa 1 (.ptr i23 0)) fun v29=>
 B1 (ld v29 dC) fun v30=>
 B1 (bq v30) fun v31=>
 J 7 (fun gm=>
 Ew J G cf aD aF gm bo ba (.ptr i23 0) v27 bf bp bH v30 v31 (.int .i64 0) dC) (fun nZ qB lM qX oN qu RN yp=>
 jP nZ qB lM qX oN qu RN yp)) (fun xZ sd nh mC gP nG oG CU=>
 J 7 (fun adX=>
 B1 (fa 2 nh) fun xt=>
 B1 (ld xt CU) fun vu=>
 B2 (cf (.func (.func 92) [] []) [(.str [32,114,101,116,114,121,61]),vu,(.int .i64 0)] CU) fun AM zS=>
 B1 (fa 3 nh) fun rB=>
 B1 (ld rB zS) fun sR=>
 B2 (cf (.func (.func 92) [] []) [(.str [32,119,97,105,116,61]),sR,(.int .i64 10)] zS) fun zK J7=>
 B1 (pH AM zK) fun zp=>
 B1 (fa 4 nh) fun wz=>
 B1 (ld wz J7) fun v124=>
 B2 (cf (.func (.func 92) [] []) [(.str [32,98,97,115,101,61]),v124,(.int .i64 1)] J7) fun vO vi=>
 B1 (pH zp vO) fun v127=>
 B1 (pH mC v127) fun NU=>
 B1 (ld rB CU) fun NS=>
 SM sR NS <|
 B1 (ld wz CU) fun v130=>
 SM v124 v130 <|
 B1 (ld wz zS) fun v131=>
 SM v124 v131 <|
 adX xZ sd nh NU gP nG oG vi) (fun jW tP tK pO sN zg DQ wF=>
 J 6 (fun Yy=>
 B1 (fa 5 tK) fun v141=>
 B1 (ld v141 wF) fun Ac=>
 B1 (qN Ac (.str [])) fun v143=>
 CD v143 (
 B1 (fa 5 tK) fun akG=>
 B1 (ld akG wF) fun v145=>
 B1 (pH (.str [32,111,110,61]) v145) fun v146=>
 B1 (pH pO v146) fun Hv=>
 Yy jW tP Hv sN zg DQ wF) (
 Yy jW tP pO sN zg DQ wF)) (fun PA zL zM z7 AG D8 Jj=>
 B1 (fl [(.str [])] [(0,1,zM)]) fun MB=>
 BN (aE Jj MB 9 0) fun i156 N5=>
 B2 (gg 9 1 [(.str [])] false zL (.slice i156 0 1 1 true 1) N5) fun RF MK=>
 aF PA RF z7 AG D8 MK)))) (fun Hm pZ nQ n0 nD nY=>
 bO Hm pZ nQ n0 nD nY)) (fun P0 EG ET Hj PC FV=>
 B1 (bS PC (.int .i64 1)) fun Fw=>
 lD P0 EG ET Hj Fw FV)) (
 aD ba dI)
noncomputable def F0 (J:JT)(G:GT)(cf:CF)(aD:K.Fn 1):K.Fn 5:=dZ P an J G cf 55 [1,1,1,0,1,0,0] [1,3,13,14,15] (fun q t H=>match Nat.beq q 0 with | true=>app 1 aD (ax [3] t) H | false=>(fun _ _ _=>none) q t H)
theorem aqb (J:JT)(G:GT)(cf:CF)(aD:K.Fn 1)(lD:K.Fn 5)(bo ba bf bp bH:AV)(dI:Hp):lB P an J G cf 55 [1,1,1,0,1,0,0] [1,3,13,14,15] (fun q t H=>match Nat.beq q 0 with | true=>app 1 aD (ax [3] t) H | false=>(fun _ _ _=>none) q t H) lD [bo,ba,bf,bp,bH] dI=Gh J G cf aD lD bo ba bf bp bH dI:=by kernel_rfl
theorem Pn (cf:CF)(aD:K.Fn 1)(bo ba bf bp bH:AV)(dI:Hp):F0 JN GO cf aD bo ba bf bp bH dI=Gh JN GO cf aD (F0 JN GO cf aD) bo ba bf bp bH dI:=aal (b:=app 5 (F0 JN GO cf aD) [bo,ba,bf,bp,bH] dI) (by kernel_rfl) ((eU cf _ _ _ _ [bo,ba,bf,bp,bH] rfl dI).trans (aqb JN GO cf aD _ bo ba bf bp bH dI))
noncomputable def OC (J:JT)(G:GT)(cf:CF)(a0:AV)(H:Hp):R:=
 BN (bx 72 a0 H) fun i0 h1=>
 B1 (aA 1 (.ptr i0 0) h1) fun v2=>
 B2 (cf (.func (.func 90) [] []) [v2] h1) fun v3 h4=>
 B1 (il v3 (.int .i64 0)) fun v5=>
 CD v5 (
 some ((.str []),h4)) (
 J 1 (fun j6=>
 B1 (fa 0 (.ptr i0 0)) fun v7=>
 B1 (ld v7 h4) fun v8=>
 B1 (bq v8) fun v9=>
 J 1 (fun aD=>
 F0 J G cf aD (.ptr i0 0) .ah v8 v9 (.int .i64 0) h4) (fun zu afK=>
 j6 zu afK)) (fun Bb A7=>
 B2 (cf (.func (.func 85) [] []) [Bb,(.str [59])] A7) fun HI Hn=>
 some (HI,Hn)))
theorem anQ (J:JT)(G:GT)(cf:CF)(a0:AV)(H:Hp):fK P J G aQ an cf 55 [a0] H=OC J G cf a0 H:=by kernel_rfl
theorem alc {a0:AV}{H:Hp}{r:AV × Hp}(h:OC JN GO cK a0 H=some r):cK (.func (.func 55) [] []) [a0] H=some r:=aS (first:=[]) (cap:=[]) ((anQ JN GO _ a0 H).trans h)
noncomputable def Od (J:JT)(G:GT)(cf:CF)(a0 a1 a2:AV)(H:Hp):R:=
 B1 (bF a1 a2) fun v0=>
 CD v0 (
 some ((.str []),H)) (
 B2 (cf (.func (.func 84) [] []) [a1] H) fun v1 h2=>
 B1 (pH a0 v1) fun v3=>
 some (v3,h2))
theorem abd {a0 a1 a2:AV}{H:Hp}{r:AV × Hp}(h:Od JN GO cK a0 a1 a2 H=some r):cK (.func (.func 92) [] []) [a0,a1,a2] H=some r:=aS (first:=[]) (cap:=[]) (aal (by kernel_rfl) h)
noncomputable def J6 (J:JT)(G:GT)(cf:CF)(aF:K.Fn 2)(cn:K.Fn 6)(kV:K.Fn 6)(JD:K.Fn 10)(eD eL dU fy cL db dd cJ eR dK:AV)(hY:Hp):R:=
 B1 (cx dK eR) fun v63=>
 CD v63 (
 J 10 (fun j64=>
 J 10 (fun ZR=>
 B1 (ia 1 cJ dK) fun ma=>
 B1 (ld ma hY) fun nX=>
 J 12 (fun Gr=>
 B1 (fl [(.int .i64 0),(.int .i64 0)] [(0,1,nX),(1,1,fy)]) fun l69=>
 BN (aE hY [(.int .i64 0),(.int .i64 0)] 231 0) fun i70 kT=>
 B1 (st 2 (.ptr i70 0) (.agg l69) kT) fun pg=>
 Gr eD eL dU fy nX (.ptr i70 0) cL db dd cJ eR dK pg) (fun gY iH ll gC fc fe pF nq qI uv mB pt qm=>
 J 12 (fun R0=>
 B1 (fa 0 gY) fun v87=>
 B1 (ld v87 qm) fun wV=>
 B1 (bq wV) fun rA=>
 B1 (mI rA (.int .i64 1)) fun qa=>
 B2 (cf (.func (.func 119) [] []) [fc,(.int .i64 0),qa] qm) fun v91 xP=>
 G v91 true (fun k93=>
 k93 fc xP) (fun xf qh=>
 G v91 true (fun k96=>
 k96 gC qh) (fun GI Ec=>
 G v91 true (fun k99=>
 B1 (il xf GI) fun Ae=>
 k99 Ae Ec) (fun vm Vg=>
 B1 (pk v91 vm (.bool false)) fun wE=>
 G wE true (fun Ql=>
 B1 (fa 1 ll) fun v105=>
 Ql v105 Vg) (fun zz AI=>
 G wE true (fun amj=>
 B1 (ld zz AI) fun v109=>
 amj v109 AI) (fun Qw Nd=>
 G wE true (fun ane=>
 B1 (aA 2 fe Nd) fun zr=>
 ane zr Nd) (fun xt Ag=>
 G wE true (fun agH=>
 B2 (cf (.func (.func 158) [] []) [Qw,xt] Ag) fun v117 Fl=>
 agH v117 Fl) (fun sR Aq=>
 G wE true (fun OS=>
 B1 (fX .not sR) fun zp=>
 OS zp Aq) (fun wz xU=>
 B1 (pk wE wz (.bool false)) fun vO=>
 R0 gY iH ll gC fe pF nq qI uv mB pt vO xU) Aq) Ag) Nd) AI) Vg) Ec) qh) xP) (fun jI iD iu iX kf nA jW tP tK pO sN zg AZ=>
 CD zg (
 B1 (fa 1 iu) fun v139=>
 B1 (ld v139 AZ) fun yl=>
 B1 (aA 2 kf AZ) fun v141=>
 B1 (fl [(.int .i64 0),(.int .i64 0)] [(0,2,v141)]) fun ags=>
 BN (aE AZ ags 231 0) fun i143 IQ=>
 B2 (gg 231 2 [(.int .i64 0),(.int .i64 0)] false yl (.slice i143 0 1 1 true 2) IQ) fun v145 yM=>
 B1 (fa 1 iu) fun Hv=>
 B1 (st 1 Hv v145 yM) fun yA=>
 ZR jI iD iu iX nA jW tP tK pO sN yA) (
 ZR jI iD iu iX nA jW tP tK pO sN AZ)))) (fun zL zM z7 AG D8 FY Pj Oe Q6 Ol MK=>
 j64 zL zM z7 AG D8 FY Pj Oe Q6 Ol MK)) (fun Hm pZ nQ n0 nD QZ P0 EG ET Hj agJ=>
 B1 (bS Hj (.int .i64 1)) fun v171=>
 JD Hm pZ nQ n0 nD QZ P0 EG ET v171 agJ)) (
 kV eD eL dU cL db dd hY)
noncomputable def GB (J:JT)(G:GT)(cf:CF)(aF:K.Fn 2)(cn:K.Fn 6)(kV:K.Fn 6):K.Fn 10:=dZ P an J G cf 127 [1,1,0,1,0,0,1,1,0,0,1,1,0,0] [1,2,3,4,14,15,16,22,23,24] (fun q t H=>match Nat.beq q 2 with | true=>app 6 kV (ax [1,2,3,14,15,16] t) H | false=>(fun q t H=>match Nat.beq q 1 with | true=>app 6 cn (ax [1,2,3,14,15,16] t) H | false=>(fun q t H=>match Nat.beq q 0 with | true=>app 2 aF (ax [2,3] t) H | false=>(fun _ _ _=>none) q t H) q t H) q t H)
theorem adp (J:JT)(G:GT)(cf:CF)(aF:K.Fn 2)(cn:K.Fn 6)(kV:K.Fn 6)(JD:K.Fn 10)(eD eL dU fy cL db dd cJ eR dK:AV)(hY:Hp):lB P an J G cf 127 [1,1,0,1,0,0,1,1,0,0,1,1,0,0] [1,2,3,4,14,15,16,22,23,24] (fun q t H=>match Nat.beq q 2 with | true=>app 6 kV (ax [1,2,3,14,15,16] t) H | false=>(fun q t H=>match Nat.beq q 1 with | true=>app 6 cn (ax [1,2,3,14,15,16] t) H | false=>(fun q t H=>match Nat.beq q 0 with | true=>app 2 aF (ax [2,3] t) H | false=>(fun _ _ _=>none) q t H) q t H) q t H) JD [eD,eL,dU,fy,cL,db,dd,cJ,eR,dK] hY=J6 J G cf aF cn kV JD eD eL dU fy cL db dd cJ eR dK hY:=by kernel_rfl
theorem Y4 (cf:CF)(aF:K.Fn 2)(cn:K.Fn 6)(kV:K.Fn 6)(eD eL dU fy cL db dd cJ eR dK:AV)(hY:Hp):GB JN GO cf aF cn kV eD eL dU fy cL db dd cJ eR dK hY=J6 JN GO cf aF cn kV (GB JN GO cf aF cn kV) eD eL dU fy cL db dd cJ eR dK hY:=aal (b:=app 10 (GB JN GO cf aF cn kV) [eD,eL,dU,fy,cL,db,dd,cJ,eR,dK] hY) (by kernel_rfl) ((eU cf _ _ _ _ [eD,eL,dU,fy,cL,db,dd,cJ,eR,dK] rfl hY).trans (adp JN GO cf aF cn kV _ eD eL dU fy cL db dd cJ eR dK hY))
noncomputable def NN (J:JT)(G:GT)(cf:CF)(aF:K.Fn 2)(eP:K.Fn 6)(aN bc bC bB bX bT:AV)(gH:Hp):R:=
 B1 (cx bT bX) fun v29=>
 CD v29 (
 J 6 (fun wP=>
 J 6 (fun cn=>
 J 8 (fun gm=>
 B1 (ia 6 bB bT) fun fM=>
 B1 (aA 6 fM gH) fun dJ=>
 BN (aE gH [(.str []),.ah,(.int .i64 0),(.int .i64 0),(.int .i64 0),(.str [])] 99 0) fun i35 na=>
 B1 (st 6 (.ptr i35 0) dJ na) fun iw=>
 gm aN bc bC bT (.ptr i35 0) bB bX bT iw) (fun cG cF cp dD eI dP iK fC jj=>
 B1 (fa 1 eI) fun je=>
 B1 (ld je jj) fun gB=>
 B1 (bq gB) fun v49=>
 J 6 (fun kV=>
 GB J G cf aF cn kV cG cF cp dD dP iK fC gB v49 (.int .i64 0) jj) (fun BH zu C8 Bb Qv R4 Hn=>
 cn BH zu C8 Bb Qv R4 Hn))) (fun OY Na Sp Sk P5 QX Mh=>
 wP OY Na Sp Sk P5 QX Mh)) (fun zt On Ov Mq NC Sj JX=>
 B1 (bS Sj (.int .i64 1)) fun v193=>
 eP zt On Ov Mq NC v193 JX)) (
 aF bc bC gH)
noncomputable def EV (J:JT)(G:GT)(cf:CF)(aF:K.Fn 2):K.Fn 6:=dZ P an J G cf 127 [1,1,0,1,0,0] [1,2,3,14,15,16] (fun q t H=>match Nat.beq q 0 with | true=>app 2 aF (ax [2,3] t) H | false=>(fun _ _ _=>none) q t H)
theorem Tg (cf:CF)(aF:K.Fn 2)(aN bc bC bB bX bT:AV)(gH:Hp):EV JN GO cf aF aN bc bC bB bX bT gH=NN JN GO cf aF (EV JN GO cf aF) aN bc bC bB bX bT gH:=aal (b:=app 6 (EV JN GO cf aF) [aN,bc,bC,bB,bX,bT] gH) (by kernel_rfl) ((eU cf 127 [1,1,0,1,0,0] [1,2,3,14,15,16] _ [aN,bc,bC,bB,bX,bT] rfl gH).trans (by kernel_rfl))
noncomputable def UP (J:JT)(G:GT)(cf:CF)(a0:AV)(H:Hp):R:=
 BN (bx 72 a0 H) fun i0 h1=>
 BN (aE h1 [(.int .i64 0),.ah] 201 0) fun i2 h3=>
 J 3 (fun j4=>
 B1 (fa 0 (.ptr i0 0)) fun v5=>
 B1 (ld v5 h3) fun v6=>
 B1 (bq v6) fun v7=>
 B1 (fl [(.int .i64 0),.ah] [(0,1,v7)]) fun l8=>
 BN (aE h3 [(.int .i64 0),.ah] 201 0) fun i9 bU=>
 B1 (st 2 (.ptr i9 0) (.agg l8) bU) fun gU=>
 j4 (.ptr i0 0) (.ptr i2 0) (.ptr i9 0) gU) (fun bo ba bf eV=>
 J 2 (fun dB=>
 B1 (fa 0 bo) fun eH=>
 B1 (ld eH eV) fun dy=>
 B1 (bq dy) fun gW=>
 J 2 (fun aF=>
 EV J G cf aF bo ba bf dy gW (.int .i64 0) eV) (fun aeg Se Gu=>
 dB aeg Se Gu)) (fun Kv Nf Lq=>
 B1 (aA 2 Nf Lq) fun af3=>
 B1 (st 2 Kv af3 Lq) fun Yr=>
 B1 (aA 2 Kv Yr) fun aiU=>
 some (aiU,Yr)))
theorem agj {a0:AV}{H:Hp}{r:AV × Hp}(h:UP JN GO cK a0 H=some r):cK (.func (.func 127) [] []) [a0] H=some r:=aS (first:=[]) (cap:=[]) (aal (by kernel_rfl) h)
noncomputable def KC (J:JT)(G:GT)(cf:CF)(a0:AV)(H:Hp):R:=
 BN (bx 72 a0 H) fun i0 h1=>
 BN (aE h1 [.ah,(.int .i64 0),.ah,.ah] 75 0) fun i2 h3=>
 J 2 (fun j4=>
 B1 (aA 1 (.ptr i0 0) h3) fun v5=>
 B2 (cf (.func (.func 90) [] []) [v5] h3) fun v6 h7=>
 B1 (il v6 (.int .i64 0)) fun v8=>
 CD v8 (
 B1 (fl [.ah,(.int .i64 0),.ah,.ah] []) fun l9=>
 B1 (st 4 (.ptr i2 0) (.agg l9) h7) fun bU=>
 B1 (aA 4 (.ptr i2 0) bU) fun v11=>
 some (.tuple [v11,v6],bU)) (
 j4 (.ptr i0 0) (.ptr i2 0) h7)) (fun bo ba ie=>
 J 2 (fun jg=>
 B1 (aA 1 bo ie) fun c8=>
 B1 (fa 0 bo) fun eH=>
 B1 (ld eH ie) fun dy=>
 B1 (bq dy) fun gW=>
 B2 (xp [(.int .i64 0),(.int .i64 0),(.int .i64 0),(.str [])] 132 4 gW gW ie) fun v20 lg=>
 B1 (fl [.ah,(.int .i64 0),.ah,.ah] [(0,1,c8),(2,1,v20)]) fun Ot=>
 B2 (cf (.func (.func 97) [] []) [(.agg Ot)] lg) fun v23 jh=>
 BN (aE jh [.ah,(.int .i64 0),.ah,.ah] 75 0) fun i25 dW=>
 B1 (st 4 (.ptr i25 0) v23 dW) fun eQ=>
 B1 (aA 1 bo lg) fun v28=>
 SM c8 v28 <|
 jg ba (.ptr i25 0) eQ) (fun eK dE gh=>
 B2 (cf (.func (.func 106) [] []) [dE] gh) fun v32 ns=>
 B1 (aA 4 dE ns) fun dJ=>
 B1 (st 4 eK dJ ns) fun dS=>
 B1 (aA 4 eK dS) fun v36=>
 some (.tuple [v36,(.int .i64 0)],dS)))
theorem anw (J:JT)(G:GT)(cf:CF)(a0:AV)(H:Hp):fK P J G aQ an cf 76 [a0] H=KC J G cf a0 H:=by kernel_rfl
theorem aaW {a0:AV}{H:Hp}{r:AV × Hp}(h:KC JN GO cK a0 H=some r):cK (.func (.func 76) [] []) [a0] H=some r:=aS (first:=[]) (cap:=[]) ((anw JN GO _ a0 H).trans h)
noncomputable def J3 (J:JT)(G:GT)(cf:CF)(jP:K.Fn 2)(jw:K.Fn 5)(dE bZ eT cw bM:AV)(dS:Hp):R:=
 B1 (cx bM cw) fun v36=>
 CD v36 (
 J 5 (fun HM=>
 J 7 (fun PW=>
 B1 (ia 6 eT bM) fun eM=>
 B1 (aA 6 eM dS) fun v40=>
 BN (aE dS [(.str []),.ah,(.int .i64 0),(.int .i64 0),(.int .i64 0),(.str [])] 99 0) fun i41 gj=>
 B1 (st 6 (.ptr i41 0) v40 gj) fun qG=>
 PW dE bZ bM (.ptr i41 0) eT cw bM qG) (fun iK fC iM fQ fF fS gK ml=>
 B1 (fa 0 iK) fun iG=>
 B1 (fa 0 iG) fun v53=>
 B1 (ld v53 ml) fun iy=>
 B1 (fa 1 fQ) fun jD=>
 B1 (ld jD ml) fun kU=>
 B2 (cf (.func (.func 137) [] []) [kU] ml) fun v57 pj=>
 B1 (ia 6 iy iM) fun v59=>
 B1 (fa 1 v59) fun fW=>
 B1 (st 1 fW v57 pj) fun gD=>
 B1 (ld v53 pj) fun gM=>
 SM iy gM <|
 HM iK fC fF fS gK gD)) (fun jB fq eO my iA xD=>
 B1 (bS iA (.int .i64 1)) fun jo=>
 jw jB fq eO my jo xD)) (
 jP dE bZ dS)
noncomputable def HT (J:JT)(G:GT)(cf:CF)(jP:K.Fn 2):K.Fn 5:=dZ P an J G cf 97 [1,1,0,1,0,0] [1,2,13,14,15] (fun q t H=>match Nat.beq q 0 with | true=>app 2 jP (ax [1,2] t) H | false=>(fun _ _ _=>none) q t H)
theorem anf (J:JT)(G:GT)(cf:CF)(jP:K.Fn 2)(jw:K.Fn 5)(dE bZ eT cw bM:AV)(dS:Hp):lB P an J G cf 97 [1,1,0,1,0,0] [1,2,13,14,15] (fun q t H=>match Nat.beq q 0 with | true=>app 2 jP (ax [1,2] t) H | false=>(fun _ _ _=>none) q t H) jw [dE,bZ,eT,cw,bM] dS=J3 J G cf jP jw dE bZ eT cw bM dS:=by kernel_rfl
theorem Ws (cf:CF)(jP:K.Fn 2)(dE bZ eT cw bM:AV)(dS:Hp):HT JN GO cf jP dE bZ eT cw bM dS=J3 JN GO cf jP (HT JN GO cf jP) dE bZ eT cw bM dS:=aal (b:=app 5 (HT JN GO cf jP) [dE,bZ,eT,cw,bM] dS) (by kernel_rfl) ((eU cf _ _ _ _ [dE,bZ,eT,cw,bM] rfl dS).trans (anf JN GO cf jP _ dE bZ eT cw bM dS))
noncomputable def LZ (J:JT)(G:GT)(cf:CF)(a0:AV)(H:Hp):R:=
 BN (bx 75 a0 H) fun i0 h1=>
 BN (aE h1 [.ah,(.int .i64 0),.ah,.ah] 75 0) fun i2 h3=>
 J 2 (fun j4=>
 B1 (fa 0 (.ptr i0 0)) fun v5=>
 B1 (fa 0 v5) fun v6=>
 B1 (ld v6 h3) fun v7=>
 B2 (cf (.func (.func 136) [] []) [v7] h3) fun v8 h9=>
 B1 (fa 0 (.ptr i0 0)) fun v10=>
 B1 (fa 0 v10) fun v11=>
 B1 (st 1 v11 v8 h9) fun dT=>
 j4 (.ptr i0 0) (.ptr i2 0) dT) (fun ba bf eV=>
 J 2 (fun dB=>
 J 5 (fun nI=>
 B1 (fa 0 ba) fun dy=>
 B1 (fa 0 dy) fun gW=>
 B1 (ld gW eV) fun v20=>
 B1 (bq v20) fun v21=>
 nI ba bf v20 v21 (.int .i64 0) eV) (fun aN bc bC bB bX eQ=>
 J 2 (fun jP=>
 HT J G cf jP aN bc bC bB bX eQ) (fun lW sF pg=>
 dB lW sF pg))) (fun gY iH rS=>
 J 2 (fun OD=>
 B1 (fa 2 gY) fun pU=>
 B1 (ld pU rS) fun rT=>
 B2 (cf (.func (.func 138) [] []) [rT] rS) fun qR yG=>
 B1 (fa 2 gY) fun pW=>
 B1 (st 1 pW qR yG) fun vE=>
 OD gY iH vE) (fun mB pt qm=>
 J 2 (fun R0=>
 B1 (fa 3 mB) fun v87=>
 B1 (ld v87 qm) fun wV=>
 B2 (cf (.func (.func 30) [] []) [wV] qm) fun rA yx=>
 B1 (fa 3 mB) fun v91=>
 B1 (st 1 v91 rA yx) fun xP=>
 R0 mB pt xP) (fun mX kq qh=>
 B1 (aA 4 mX qh) fun qE=>
 B1 (st 4 kq qE qh) fun xF=>
 B1 (aA 4 kq xF) fun IW=>
 some (IW,xF)))))
theorem an0 (J:JT)(G:GT)(cf:CF)(a0:AV)(H:Hp):fK P J G aQ an cf 97 [a0] H=LZ J G cf a0 H:=by kernel_rfl
theorem ack {a0:AV}{H:Hp}{r:AV × Hp}(h:LZ JN GO cK a0 H=some r):cK (.func (.func 97) [] []) [a0] H=some r:=aS (first:=[]) (cap:=[]) ((an0 JN GO _ a0 H).trans h)
noncomputable def yL (J:JT)(G:GT)(cf:CF)(dB:K.Fn 2)(nI:K.Fn 5)(bE df cY aU aN:AV)(cB:Hp):R:=
 B1 (cx aN aU) fun v24=>
 CD v24 (
 J 5 (fun Ef=>
 J 7 (fun j26=>
 B1 (ia 6 cY aN) fun v27=>
 B1 (aA 6 v27 cB) fun v28=>
 BN (aE cB [(.str []),.ah,(.int .i64 0),(.int .i64 0),(.int .i64 0),(.str [])] 99 0) fun i29 lE=>
 B1 (st 6 (.ptr i29 0) v28 lE) fun gh=>
 j26 bE df aN (.ptr i29 0) cY aU aN gh) (fun eT cw bM dG bN cu cG rQ=>
 J 8 (fun wD=>
 B1 (fa 1 dG) fun v41=>
 B1 (ld v41 rQ) fun fw=>
 B2 (cf (.func (.func 143) [] []) [fw,(.func (.func 144) [] [eT])] rQ) fun gu ef=>
 wD eT cw bM dG gu bN cu cG ef) (fun fC iM fQ fF fS gK gJ eD ir=>
 J 6 (fun eh=>
 J 7 (fun qY=>
 B1 (ld fC ir) fun kU=>
 B1 (aV kU) fun v57=>
 B1 (fa 2 v57) fun lN=>
 B1 (ld lN ir) fun v59=>
 B1 (ia 4 v59 fQ) fun fW=>
 B1 (fa 0 fW) fun mR=>
 B1 (ld mR ir) fun gM=>
 B1 (bF gM (.int .i64 0)) fun v63=>
 sG v63 true (
 B1 (fX .not fS) fun v64=>
 sG v64 true (
 B1 (fa 5 fF) fun pw=>
 B1 (ld pw ir) fun ma=>
 B1 (seq ma (.str [])) fun nX=>
 sG nX false (
 B1 (ld fC ir) fun mE=>
 B1 (aV mE) fun jo=>
 B1 (fa 3 jo) fun v70=>
 B1 (ld v70 ir) fun nP=>
 B1 (fa 5 fF) fun v72=>
 B1 (ld v72 ir) fun kP=>
 B2 (cf (.func (.func 94) [] []) [nP,kP] ir) fun jO rS=>
 qY fC iM fQ gK gJ eD jO rS) (
 qY fC iM fQ gK gJ eD (.bool true) ir)) (
 qY fC iM fQ gK gJ eD (.bool false) ir)) (
 qY fC iM fQ gK gJ eD (.bool false) ir)) (fun gC fc fe pF nq qI uv py=>
 CD uv (
 B1 (ld gC py) fun AD=>
 B1 (aV AD) fun v85=>
 B1 (fa 2 v85) fun vn=>
 B1 (ld vn py) fun v87=>
 B1 (ia 4 v87 fe) fun wV=>
 B1 (fa 0 wV) fun rA=>
 B1 (st 1 rA (.int .i64 1) py) fun yx=>
 eh gC fc fe pF nq qI yx) (
 eh gC fc fe pF nq qI py))) (fun yc mj mX kq kI mG xF=>
 G mj true (fun k98=>
 B1 (ld yc xF) fun ES=>
 k98 ES xF) (fun Ae AU=>
 G mj true (fun ach=>
 B1 (aV Ae) fun wE=>
 ach wE AU) (fun xY z8=>
 G mj true (fun adl=>
 B1 (fa 2 xY) fun v107=>
 adl v107 z8) (fun wH Mc=>
 G mj true (fun al9=>
 B1 (ld wH Mc) fun Ex=>
 al9 Ex Mc) (fun FC Ce=>
 G mj true (fun an1=>
 an1 mX Ce) (fun vu Bv=>
 G mj true (fun anE=>
 B1 (ia 4 FC vu) fun rB=>
 anE rB Bv) (fun sR Aq=>
 G mj true (fun OS=>
 B1 (fa 0 sR) fun zp=>
 OS zp Aq) (fun wz xU=>
 G mj true (fun ag4=>
 B1 (ld wz xU) fun Sr=>
 ag4 Sr xU) (fun v127 Lp=>
 G mj true (fun aeS=>
 B1 (bF v127 (.int .i64 3)) fun v130=>
 aeS v130 Lp) (fun v131 CA=>
 B1 (pk mj v131 (.bool false)) fun Gw=>
 Ef yc Gw kq kI mG CA) Lp) xU) Aq) Bv) Ce) Mc) z8) AU) xF)))) (fun tK pO sN zg DQ wF=>
 B1 (bS DQ (.int .i64 1)) fun yl=>
 nI tK pO sN zg yl wF)) (
 dB bE df cB)
noncomputable def uh (J:JT)(G:GT)(cf:CF)(dB:K.Fn 2):K.Fn 5:=dZ P an J G cf 106 [1,1,0,1,0,0] [1,2,10,11,12] (fun q t H=>match Nat.beq q 0 with | true=>app 2 dB (ax [1,2] t) H | false=>(fun _ _ _=>none) q t H)
theorem amk (J:JT)(G:GT)(cf:CF)(dB:K.Fn 2)(nI:K.Fn 5)(bE df cY aU aN:AV)(cB:Hp):lB P an J G cf 106 [1,1,0,1,0,0] [1,2,10,11,12] (fun q t H=>match Nat.beq q 0 with | true=>app 2 dB (ax [1,2] t) H | false=>(fun _ _ _=>none) q t H) nI [bE,df,cY,aU,aN] cB=yL J G cf dB nI bE df cY aU aN cB:=by kernel_rfl
theorem MF (cf:CF)(dB:K.Fn 2)(bE df cY aU aN:AV)(cB:Hp):uh JN GO cf dB bE df cY aU aN cB=yL JN GO cf dB (uh JN GO cf dB) bE df cY aU aN cB:=aal (b:=app 5 (uh JN GO cf dB) [bE,df,cY,aU,aN] cB) (by kernel_rfl) ((eU cf _ _ _ _ [bE,df,cY,aU,aN] rfl cB).trans (amk JN GO cf dB _ bE df cY aU aN cB))
noncomputable def JB (J:JT)(G:GT)(cf:CF)(a0:AV)(H:Hp):R:=
 BN (bx 146 a0 H) fun i0 h1=>
 J 2 (fun j2=>
 J 5 (fun j3=>
 B1 (ld (.ptr i0 0) h1) fun v4=>
 B1 (aV v4) fun v5=>
 B1 (fa 0 v5) fun v6=>
 B1 (fa 0 v6) fun v7=>
 B1 (ld v7 h1) fun v8=>
 B1 (bq v8) fun v9=>
 j3 (.ptr i0 0) (.bool true) v8 v9 (.int .i64 0) h1) (fun dA bG bo ba bf eV=>
 J 2 (fun dB=>
 uh J G cf dB dA bG bo ba bf eV) (fun DM HA zN=>
 j2 DM HA zN))) (fun BZ Df yM=>
 CD Df (
 B1 (ld BZ yM) fun Hv=>
 B1 (aV Hv) fun v148=>
 B1 (fa 1 v148) fun Fh=>
 B1 (st 1 Fh (.int .i64 1) yM) fun J9=>
 some (.tuple [],J9)) (
 some (.tuple [],yM)))
theorem ajX (J:JT)(G:GT)(cf:CF)(a0:AV)(H:Hp):fK P J G aQ an cf 106 [a0] H=JB J G cf a0 H:=by kernel_rfl
theorem YZ {a0:AV}{H:Hp}{r:AV × Hp}(h:JB JN GO cK a0 H=some r):cK (.func (.func 106) [] []) [a0] H=some r:=aS (first:=[]) (cap:=[]) ((ajX JN GO _ a0 H).trans h)
noncomputable def aak (J:JT)(G:GT)(cf:CF)(a0 a1:AV)(H:Hp):R:=
 B1 (ld a1 H) fun v0=>
 B1 (aV v0) fun v1=>
 B1 (fa 2 v1) fun v2=>
 B1 (ld v2 H) fun v3=>
 B1 (ia 4 v3 a0) fun v4=>
 B1 (fa 0 v4) fun v5=>
 B1 (ld v5 H) fun v6=>
 B1 (il v6 (.int .i64 3)) fun v7=>
 some (v7,H)
theorem ac3 {a0 a1:AV}{H:Hp}{r:AV × Hp}(h:aak JN GO cK a0 a1 H=some r):cK (.func (.func 144) [] [a1]) [a0] H=some r:=aS (first:=[]) (cap:=[a1]) (aal (by kernel_rfl) h)
noncomputable def abA (J:JT)(G:GT)(cf:CF)(a0 a1:AV)(H:Hp):R:=
 BN (bx 75 a0 H) fun i0 h1=>
 J 0 (fun j2=>
 J 2 (fun j3=>
 B1 (cx a1 (.int .i64 0)) fun v4=>
 G v4 false (fun k5=>
 k5 a1 h1) (fun v6 h7=>
 G v4 false (fun k8=>
 B1 (fa 2 (.ptr i0 0)) fun v9=>
 k8 v9 h7) (fun v10 gU=>
 G v4 false (fun k12=>
 B1 (ld v10 gU) fun dN=>
 k12 dN gU) (fun cI eV=>
 G v4 false (fun QP=>
 B1 (bq cI) fun eH=>
 QP eH eV) (fun dy cU=>
 G v4 false (fun Qx=>
 B1 (lS v6 dy) fun v21=>
 Qx v21 cU) (fun v22 cB=>
 B1 (pk v4 (.bool true) v22) fun v24=>
 j3 (.ptr i0 0) v24 cB) cU) eV) gU) h7) h1) (fun bB bX eQ=>
 CD bX (
 some ((.int .i64 1),eQ)) (
 B1 (fa 1 bB) fun v28=>
 B1 (ld v28 eQ) fun v29=>
 B1 (il v29 (.int .i64 0)) fun v30=>
 CD v30 (
 some ((.int .i64 9),eQ)) (
 j2  eQ)))) (fun  gh=>
 some ((.int .i64 0),gh))
theorem af4 {a0 a1:AV}{H:Hp}{r:AV × Hp}(h:abA JN GO cK a0 a1 H=some r):cK (.func (.func 108) [] []) [a0,a1] H=some r:=aS (first:=[]) (cap:=[]) (aal (by kernel_rfl) h)
noncomputable def Kk (J:JT)(G:GT)(cf:CF)(a0 a1 a2:AV)(H:Hp):R:=
 BN (bx 75 a0 H) fun i0 h1=>
 J 3 (fun j2=>
 B1 (aA 4 (.ptr i0 0) h1) fun v3=>
 B2 (cf (.func (.func 108) [] []) [v3,a1] h1) fun v4 h5=>
 B1 (il v4 (.int .i64 0)) fun v6=>
 CD v6 (
 some (v4,h5)) (
 j2 a1 a2 (.ptr i0 0) h5)) (fun x7 x8 x9 bU=>
 J 0 (fun lD=>
 J 2 (fun cH=>
 B1 (fa 2 x9) fun dN=>
 B1 (ld dN bU) fun cI=>
 B1 (ia 4 cI x7) fun gE=>
 B1 (aA 4 gE bU) fun c8=>
 BN (aE bU [(.int .i64 0),(.int .i64 0),(.int .i64 0),(.str [])] 132 0) fun i17 eY=>
 B1 (st 4 (.ptr i17 0) c8 eY) fun cU=>
 cH x8 (.ptr i17 0) cU) (fun cY aU lR=>
 J 1 (fun eZ=>
 B1 (fa 0 aU) fun v24=>
 B1 (ld v24 lR) fun v25=>
 B1 (il v25 (.int .i64 2)) fun v26=>
 G v26 false (fun Fv=>
 B1 (fa 1 aU) fun v28=>
 Fv v28 lR) (fun v29 lE=>
 G v26 false (fun Eg=>
 B1 (ld v29 lE) fun v32=>
 Eg v32 lE) (fun fM rY=>
 G v26 false (fun A9=>
 A9 cY rY) (fun v36 iw=>
 G v26 false (fun xq=>
 B1 (il fM v36) fun eM=>
 xq eM iw) (fun v40 gR=>
 B1 (pk v26 (.bool true) v40) fun fw=>
 eZ fw gR) iw) rY) lE) lR) (fun dP ef=>
 CD dP (
 some ((.int .i64 8),ef)) (
 lD  ef)))) (fun  nB=>
 some ((.int .i64 0),nB)))
theorem ajl (J:JT)(G:GT)(cf:CF)(a0 a1 a2:AV)(H:Hp):fK P J G aQ an cf 109 [a0,a1,a2] H=Kk J G cf a0 a1 a2 H:=by kernel_rfl
theorem S9 {a0 a1 a2:AV}{H:Hp}{r:AV × Hp}(h:Kk JN GO cK a0 a1 a2 H=some r):cK (.func (.func 109) [] []) [a0,a1,a2] H=some r:=aS (first:=[]) (cap:=[]) ((ajl JN GO _ a0 a1 a2 H).trans h)
noncomputable def DI (J:JT)(G:GT)(cf:CF)(a0 a1 a2 a3:AV)(H:Hp):R:=
 BN (bx 75 a0 H) fun i0 h1=>
 BN (aE h1 [.ah,(.int .i64 0),.ah,.ah] 75 0) fun i2 h3=>
 J 5 (fun j4=>
 B1 (aA 4 (.ptr i0 0) h3) fun v5=>
 B2 (cf (.func (.func 108) [] []) [v5,a1] h3) fun v6 h7=>
 B1 (il v6 (.int .i64 0)) fun v8=>
 CD v8 (
 B1 (fl [.ah,(.int .i64 0),.ah,.ah] []) fun l9=>
 B1 (st 4 (.ptr i2 0) (.agg l9) h7) fun bU=>
 B1 (aA 4 (.ptr i2 0) bU) fun v11=>
 some (.tuple [v11,v6],bU)) (
 j4 a1 a2 a3 (.ptr i0 0) (.ptr i2 0) h7)) (fun bo ba bf bp bH dI=>
 J 6 (fun fZ=>
 B1 (fa 2 bp) fun gW=>
 B1 (ld gW dI) fun v20=>
 B1 (ia 4 v20 bo) fun v21=>
 B1 (aA 4 v21 dI) fun v22=>
 BN (aE dI [(.int .i64 0),(.int .i64 0),(.int .i64 0),(.str [])] 132 0) fun i23 jh=>
 B1 (st 4 (.ptr i23 0) v22 jh) fun dC=>
 fZ bo ba bf bp bH (.ptr i23 0) dC) (fun bX bT dh eK dE bZ eF=>
 J 6 (fun Hq=>
 B1 (fa 0 bZ) fun dJ=>
 B1 (ld dJ eF) fun v35=>
 B1 (il v35 (.int .i64 1)) fun v36=>
 CD v36 (
 B1 (fl [.ah,(.int .i64 0),.ah,.ah] []) fun Hg=>
 B1 (st 4 dE (.agg Hg) eF) fun fL=>
 B1 (aA 4 dE fL) fun eM=>
 some (.tuple [eM,(.int .i64 4)],fL)) (
 J 7 (fun wD=>
 B1 (fa 1 bZ) fun v41=>
 B1 (ld v41 eF) fun fw=>
 B1 (bS fw (.int .i64 1)) fun gu=>
 B1 (il bT gu) fun v44=>
 wD bX bT dh eK dE bZ v44 eF) (fun fC iM fQ fF fS gK gJ nO=>
 CD gJ (
 B1 (fl [.ah,(.int .i64 0),.ah,.ah] []) fun Of=>
 B1 (st 4 fS (.agg Of) nO) fun wI=>
 B1 (aA 4 fS wI) fun jD=>
 some (.tuple [jD,(.int .i64 8)],wI)) (
 Hq fC iM fQ fF fS gK nO)))) (fun cL db dd cJ eR dK hY=>
 B1 (aA 4 cJ hY) fun v63=>
 B2 (cf (.func (.func 97) [] []) [v63] hY) fun v64 mL=>
 B1 (st 4 cJ v64 mL) fun fV=>
 J 4 (fun zV=>
 B1 (fa 0 cJ) fun mE=>
 B1 (fa 0 mE) fun jo=>
 B1 (ld jo fV) fun v70=>
 B1 (ia 6 v70 cL) fun nP=>
 B1 (fa 3 nP) fun v72=>
 B1 (ld v72 fV) fun kP=>
 B1 (bS dd kP) fun jO=>
 B1 (fa 0 dK) fun v75=>
 B1 (st 1 v75 (.int .i64 2) fV) fun rR=>
 B1 (fa 1 dK) fun pU=>
 B1 (st 1 pU db rR) fun xg=>
 B1 (fa 2 dK) fun qR=>
 B1 (st 1 qR jO xg) fun yG=>
 B1 (ld jo rR) fun pW=>
 SM v70 pW <|
 B1 (ld v72 rR) fun mM=>
 SM kP mM <|
 B1 (ld jo xg) fun pQ=>
 SM v70 pQ <|
 B1 (ld v72 xg) fun AD=>
 SM kP AD <|
 zV cL cJ eR dK yG) (fun oX pG se nf si=>
 J 2 (fun JQ=>
 B1 (fa 2 pG) fun v91=>
 B1 (ld v91 si) fun wG=>
 B1 (aA 4 nf si) fun v93=>
 B1 (ia 4 wG oX) fun xf=>
 B1 (st 4 xf v93 si) fun qh=>
 JQ pG se qh) (fun mG nZ Ec=>
 B1 (aA 4 mG Ec) fun ES=>
 B1 (st 4 nZ ES Ec) fun uT=>
 B1 (aA 4 nZ uT) fun vm=>
 some (.tuple [vm,(.int .i64 0)],uT))))))
theorem amz (J:JT)(G:GT)(cf:CF)(a0 a1 a2 a3:AV)(H:Hp):fK P J G aQ an cf 78 [a0,a1,a2,a3] H=DI J G cf a0 a1 a2 a3 H:=by kernel_rfl
theorem IE {a0 a1 a2 a3:AV}{H:Hp}{r:AV × Hp}(h:DI JN GO cK a0 a1 a2 a3 H=some r):cK (.func (.func 78) [] []) [a0,a1,a2,a3] H=some r:=aS (first:=[]) (cap:=[]) ((amz JN GO _ a0 a1 a2 a3 H).trans h)
noncomputable def J1 (J:JT)(G:GT)(cf:CF)(a0 a1 a2 a3:AV)(H:Hp):R:=
 BN (bx 75 a0 H) fun i0 h1=>
 BN (aE h1 [.ah,(.int .i64 0),.ah,.ah] 75 0) fun i2 h3=>
 J 5 (fun j4=>
 J 6 (fun j5=>
 B1 (aA 4 (.ptr i0 0) h3) fun v6=>
 B2 (cf (.func (.func 109) [] []) [v6,a1,a2] h3) fun v7 h8=>
 j5 a1 a2 a3 (.ptr i0 0) (.ptr i2 0) v7 h8) (fun x9 dA bG bo ba bf eV=>
 B1 (il bf (.int .i64 0)) fun c8=>
 CD c8 (
 B1 (fl [.ah,(.int .i64 0),.ah,.ah] []) fun l17=>
 B1 (st 4 ba (.agg l17) eV) fun eY=>
 B1 (aA 4 ba eY) fun gW=>
 some (.tuple [gW,bf],eY)) (
 j4 x9 dA bG bo ba eV))) (fun cY aU aN bc bC dC=>
 B1 (aA 4 bc dC) fun v26=>
 B2 (cf (.func (.func 97) [] []) [v26] dC) fun v27 gH=>
 B1 (st 4 bc v27 gH) fun dR=>
 J 2 (fun wP=>
 B1 (fa 2 bc) fun v31=>
 B1 (ld v31 dR) fun v32=>
 B1 (fl [(.int .i64 0),(.int .i64 0),(.int .i64 0),(.str [])] [(0,1,(.int .i64 3)),(1,1,aU),(3,1,aN)]) fun P1=>
 B1 (ia 4 v32 cY) fun dJ=>
 B1 (st 4 dJ (.agg P1) dR) fun dS=>
 wP bc bC dS) (fun bN cu fL=>
 B2 (cf (.func (.func 106) [] []) [bN] fL) fun eM kB=>
 B1 (aA 4 bN kB) fun v41=>
 B1 (st 4 cu v41 kB) fun gj=>
 B1 (aA 4 cu gj) fun gu=>
 some (.tuple [gu,(.int .i64 0)],gj)))
theorem acz (J:JT)(G:GT)(cf:CF)(a0 a1 a2 a3:AV)(H:Hp):fK P J G aQ an cf 79 [a0,a1,a2,a3] H=J1 J G cf a0 a1 a2 a3 H:=by kernel_rfl
theorem TK {a0 a1 a2 a3:AV}{H:Hp}{r:AV × Hp}(h:J1 JN GO cK a0 a1 a2 a3 H=some r):cK (.func (.func 79) [] []) [a0,a1,a2,a3] H=some r:=aS (first:=[]) (cap:=[]) ((acz JN GO _ a0 a1 a2 a3 H).trans h)
noncomputable def LH (J:JT)(G:GT)(cf:CF)(a0 a1 a2:AV)(H:Hp):R:=
 J 4 (fun j0=>
 B1 (aV a0) fun v1=>
 B1 (fa 2 v1) fun v2=>
 B1 (ld v2 H) fun v3=>
 B1 (ia 4 v3 a1) fun v4=>
 B1 (aV a0) fun v5=>
 B1 (fa 0 v5) fun v6=>
 B1 (fa 0 v6) fun v7=>
 B1 (ld v7 H) fun v8=>
 B1 (ia 6 v8 a1) fun v9=>
 B1 (aA 6 v9 H) fun v10=>
 BN (aE H [(.str []),.ah,(.int .i64 0),(.int .i64 0),(.int .i64 0),(.str [])] 99 0) fun i11 dT=>
 B1 (st 6 (.ptr i11 0) v10 dT) fun iP=>
 j0 a0 a2 v4 (.ptr i11 0) iP) (fun bf bp bH bW eY=>
 J 2 (fun bO=>
 J 5 (fun aF=>
 B1 (aV bH) fun v21=>
 B1 (fa 1 v21) fun v22=>
 B1 (ld v22 eY) fun v23=>
 B1 (fa 2 bW) fun v24=>
 B1 (ld v24 eY) fun v25=>
 B1 (oh v23 v25) fun v26=>
 aF bf bp bH bW v26 eY) (fun bT dh eK dE bZ eF=>
 CD bZ (
 B1 (fa 4 dE) fun fM=>
 B1 (ld fM eF) fun dJ=>
 B1 (aV eK) fun v35=>
 B1 (fa 1 v35) fun v36=>
 B1 (ld v36 eF) fun v37=>
 B2 (cf (.func (.func 145) [] []) [dJ,v37] eF) fun jK rQ=>
 B1 (bS dh jK) fun v40=>
 B1 (aV eK) fun v41=>
 B1 (fa 0 v41) fun fw=>
 B1 (st 1 fw (.int .i64 5) rQ) fun qG=>
 B1 (aV eK) fun v44=>
 B1 (fa 2 v44) fun fB=>
 B1 (st 1 fB v40 qG) fun jj=>
 some (.tuple [],jj)) (
 bO bT eK eF))) (fun fQ fF sB=>
 J 1 (fun kV=>
 B1 (aV fF) fun v51=>
 B1 (fa 0 v51) fun iG=>
 B1 (st 1 iG (.int .i64 4) sB) fun ir=>
 B1 (aV fF) fun iy=>
 B1 (fa 2 iy) fun jD=>
 B1 (st 1 jD (.int .i64 0) ir) fun nL=>
 kV fQ nL) (fun db pj=>
 B1 (aV db) fun v59=>
 B1 (fa 1 v59) fun fW=>
 B1 (st 1 fW (.int .i64 2) pj) fun gD=>
 some (.tuple [],gD))))
theorem aow (J:JT)(G:GT)(cf:CF)(a0 a1 a2:AV)(H:Hp):fK P J G aQ an cf 107 [a0,a1,a2] H=LH J G cf a0 a1 a2 H:=by kernel_rfl
theorem V0 {a0 a1 a2:AV}{H:Hp}{r:AV × Hp}(h:LH JN GO cK a0 a1 a2 H=some r):cK (.func (.func 107) [] []) [a0,a1,a2] H=some r:=aS (first:=[]) (cap:=[]) ((aow JN GO _ a0 a1 a2 H).trans h)
noncomputable def Nr (J:JT)(G:GT)(cf:CF)(a0 a1 a2 a3:AV)(H:Hp):R:=
 BN (bx 75 a0 H) fun i0 h1=>
 BN (aE h1 [.ah,(.int .i64 0),.ah,.ah] 75 0) fun i2 h3=>
 J 4 (fun j4=>
 J 5 (fun j5=>
 B1 (aA 4 (.ptr i0 0) h3) fun v6=>
 B2 (cf (.func (.func 109) [] []) [v6,a1,a2] h3) fun v7 h8=>
 j5 a1 a3 (.ptr i0 0) (.ptr i2 0) v7 h8) (fun x9 dA bG bo ba ie=>
 B1 (il ba (.int .i64 0)) fun gE=>
 CD gE (
 B1 (fl [.ah,(.int .i64 0),.ah,.ah] []) fun l16=>
 B1 (st 4 bo (.agg l16) ie) fun dI=>
 B1 (aA 4 bo dI) fun dy=>
 some (.tuple [dy,ba],dI)) (
 j4 x9 dA bG bo ie))) (fun df cY aU aN cB=>
 B1 (aA 4 aU cB) fun v24=>
 B2 (cf (.func (.func 97) [] []) [v24] cB) fun v25 dW=>
 B1 (st 4 aU v25 dW) fun eQ=>
 B2 (cf (.func (.func 107) [] []) [aU,df,cY] eQ) fun v28 dR=>
 B1 (aA 4 aU dR) fun v30=>
 B1 (st 4 aN v30 dR) fun gh=>
 B1 (aA 4 aN gh) fun v32=>
 some (.tuple [v32,(.int .i64 0)],gh))
theorem YC {a0 a1 a2 a3:AV}{H:Hp}{r:AV × Hp}(h:Nr JN GO cK a0 a1 a2 a3 H=some r):cK (.func (.func 80) [] []) [a0,a1,a2,a3] H=some r:=aS (first:=[]) (cap:=[]) (aal (by kernel_rfl) h)
noncomputable def bl__run_Run_Tick (J:JT)(G:GT)(cf:CF)(cH:K.Fn 2)(eN:K.Fn 5)(bf bp bH bW bE:AV)(cU:Hp):R:=
 B1 (cx bE bW) fun v20=>
 CD v20 (
 J 5 (fun eP=>
 J 5 (fun FU=>
 J 7 (fun eZ=>
 B1 (fa 2 bp) fun v24=>
 B1 (ld v24 cU) fun v25=>
 B1 (ia 4 v25 bE) fun v26=>
 eZ bf bp bH bE v26 bW bE cU) (fun bT dh eK dE bZ eT cw rY=>
 J 5 (fun dq=>
 J 8 (fun vp=>
 B1 (fa 1 dh) fun v37=>
 B1 (ld v37 rY) fun jK=>
 B1 (il jK (.int .i64 0)) fun eM=>
 G eM false (fun Pg=>
 Pg bZ rY) (fun v41 gj=>
 G eM false (fun Sh=>
 B1 (aV v41) fun v44=>
 Sh v44 gj) (fun fB jj=>
 G eM false (fun k47=>
 B1 (fa 2 fB) fun gB=>
 k47 gB jj) (fun v49 mY=>
 G eM false (fun k51=>
 B1 (ld v49 mY) fun iG=>
 k51 iG mY) (fun v53 wI=>
 G eM false (fun k55=>
 k55 bT wI) (fun kU jv=>
 G eM false (fun Gm=>
 B1 (mU v53 kU) fun v59=>
 Gm v59 jv) (fun fW gD=>
 B1 (pk eM (.bool true) fW) fun gM=>
 vp bT dh eK dE bZ eT cw gM gD) jv) wI) mY) jj) gj) rY) (fun jB fq eO my iA jU mf lW kT=>
 CD lW (
 dq jB fq eO jU mf kT) (
 J 8 (fun tv=>
 B1 (aV iA) fun kP=>
 B1 (fa 0 kP) fun jO=>
 B1 (ld jO kT) fun v75=>
 B1 (bF v75 (.int .i64 2)) fun v76=>
 tv jB fq eO my iA jU mf v76 kT) (fun fc fe pF nq qI uv mB pt qm=>
 CD pt (
 B2 (cf (.func (.func 107) [] []) [fe,nq,fc] qm) fun vn tD=>
 dq fc fe pF uv mB tD) (
 J 7 (fun j88=>
 B1 (aV qI) fun rA=>
 B1 (fa 0 rA) fun qa=>
 B1 (ld qa qm) fun v91=>
 B1 (bF v91 (.int .i64 5)) fun wG=>
 j88 fc fe pF qI uv mB wG qm) (fun mX kq kI mG nZ qB lM uT=>
 CD lM (
 B1 (aV mG) fun vm=>
 B1 (fa 0 vm) fun rG=>
 B1 (st 1 rG (.int .i64 1) uT) fun lf=>
 B1 (aV mG) fun xY=>
 B1 (fa 2 xY) fun v105=>
 B1 (st 1 v105 (.int .i64 0) lf) fun uo=>
 dq mX kq kI nZ qB uo) (
 dq mX kq kI nZ qB uT))))))) (fun nh mC gP nG oG CU=>
 FU nh mC gP nG oG CU))) (fun rO qW xC xG AP Fl=>
 eP rO qW xC xG AP Fl)) (fun uQ sf sA ug xd xU=>
 B1 (bS xd (.int .i64 1)) fun vO=>
 eN uQ sf sA ug vO xU)) (
 cH bp bH cU)
noncomputable def zn (J:JT)(G:GT)(cf:CF)(cH:K.Fn 2):K.Fn 5:=dZ P an J G cf 77 [1,1,0,1,0,0] [1,2,4,11,12] (fun q t H=>match Nat.beq q 0 with | true=>app 2 cH (ax [2,4] t) H | false=>(fun _ _ _=>none) q t H)
theorem ae5 (J:JT)(G:GT)(cf:CF)(cH:K.Fn 2)(eN:K.Fn 5)(bf bp bH bW bE:AV)(cU:Hp):lB P an J G cf 77 [1,1,0,1,0,0] [1,2,4,11,12] (fun q t H=>match Nat.beq q 0 with | true=>app 2 cH (ax [2,4] t) H | false=>(fun _ _ _=>none) q t H) eN [bf,bp,bH,bW,bE] cU=bl__run_Run_Tick J G cf cH eN bf bp bH bW bE cU:=by kernel_rfl
theorem Dk (cf:CF)(cH:K.Fn 2)(bf bp bH bW bE:AV)(cU:Hp):zn JN GO cf cH bf bp bH bW bE cU=bl__run_Run_Tick JN GO cf cH (zn JN GO cf cH) bf bp bH bW bE cU:=aal (b:=app 5 (zn JN GO cf cH) [bf,bp,bH,bW,bE] cU) (by kernel_rfl) ((eU cf _ _ _ _ [bf,bp,bH,bW,bE] rfl cU).trans (ae5 JN GO cf cH _ bf bp bH bW bE cU))
noncomputable def OK (J:JT)(G:GT)(cf:CF)(a0 a1:AV)(H:Hp):R:=
 BN (bx 75 a0 H) fun i0 h1=>
 BN (aE h1 [.ah,(.int .i64 0),.ah,.ah] 75 0) fun i2 h3=>
 B1 (aA 4 (.ptr i0 0) h3) fun v4=>
 B2 (cf (.func (.func 97) [] []) [v4] h3) fun v5 h6=>
 B1 (st 4 (.ptr i0 0) v5 h6) fun h7=>
 J 2 (fun j8=>
 B1 (fa 2 (.ptr i0 0)) fun v9=>
 B1 (ld v9 h7) fun v10=>
 B1 (bq v10) fun v11=>
 J 2 (fun cH=>
 zn J G cf cH a1 (.ptr i0 0) (.ptr i2 0) v11 (.int .i64 0) h7) (fun jI iD Lp=>
 j8 jI iD Lp)) (fun iX kf C9=>
 B1 (aA 4 iX C9) fun Si=>
 B1 (st 4 kf Si C9) fun lH=>
 B1 (aA 4 kf lH) fun P4=>
 some (P4,lH))
theorem ahn (J:JT)(G:GT)(cf:CF)(a0 a1:AV)(H:Hp):fK P J G aQ an cf 77 [a0,a1] H=OK J G cf a0 a1 H:=by kernel_rfl
theorem al0 {a0 a1:AV}{H:Hp}{r:AV × Hp}(h:OK JN GO cK a0 a1 H=some r):cK (.func (.func 77) [] []) [a0,a1] H=some r:=aS (first:=[]) (cap:=[]) ((ahn JN GO _ a0 a1 H).trans h)
noncomputable def CO (J:JT)(G:GT)(cf:CF)(a0 a1:AV)(H:Hp):R:=
 BN (bx 75 a0 H) fun i0 h1=>
 BN (bx 9 a1 h1) fun i2 h3=>
 BN (aE h3 [.ah,(.int .i64 0),.ah,.ah] 75 0) fun i4 h5=>
 J 3 (fun j6=>
 B1 (fa 1 (.ptr i0 0)) fun v7=>
 B1 (ld v7 h5) fun v8=>
 B1 (il v8 (.int .i64 0)) fun v9=>
 CD v9 (
 B1 (fl [.ah,(.int .i64 0),.ah,.ah] []) fun l10=>
 B1 (st 4 (.ptr i4 0) (.agg l10) h5) fun gU=>
 B1 (aA 4 (.ptr i4 0) gU) fun v12=>
 some (.tuple [v12,(.int .i64 9)],gU)) (
 J 4 (fun eN=>
 B1 (fa 3 (.ptr i0 0)) fun cI=>
 B1 (ld cI h5) fun gE=>
 B1 (ld (.ptr i2 0) h5) fun c8=>
 B2 (cf (.func (.func 94) [] []) [gE,c8] h5) fun eH eY=>
 eN (.ptr i0 0) (.ptr i2 0) (.ptr i4 0) eH eY) (fun df cY aU aN cB=>
 CD aN (
 B1 (fl [.ah,(.int .i64 0),.ah,.ah] []) fun Rx=>
 B1 (st 4 aU (.agg Rx) cB) fun dC=>
 B1 (aA 4 aU dC) fun v26=>
 some (.tuple [v26,(.int .i64 5)],dC)) (
 J 4 (fun xM=>
 B1 (fa 0 df) fun v28=>
 B1 (fa 0 v28) fun v29=>
 B1 (ld v29 cB) fun v30=>
 B2 (cf (.func (.func 95) [] []) [v30,(.func (.func 110) [] [cY])] cB) fun v31 eF=>
 B1 (fX .not v31) fun fM=>
 xM df cY aU fM eF) (fun bM dG bN cu fL=>
 CD cu (
 B1 (fl [.ah,(.int .i64 0),.ah,.ah] []) fun l39=>
 B1 (st 4 bN (.agg l39) fL) fun kB=>
 B1 (aA 4 bN kB) fun v41=>
 some (.tuple [v41,(.int .i64 1)],kB)) (
 j6 bM dG bN fL)))))) (fun eI dP iK nB=>
 B1 (aA 4 eI nB) fun v46=>
 B2 (cf (.func (.func 97) [] []) [v46] nB) fun je ng=>
 B1 (st 4 eI je ng) fun sB=>
 J 2 (fun kV=>
 B1 (fa 3 eI) fun v51=>
 B1 (ld v51 sB) fun iG=>
 B1 (ld dP sB) fun v53=>
 B1 (fl [(.str [])] [(0,1,v53)]) fun l54=>
 BN (aE sB l54 9 0) fun i55 nL=>
 B2 (gg 9 1 [(.str [])] false iG (.slice i55 0 1 1 true 1) nL) fun v57 pj=>
 B1 (fa 3 eI) fun v59=>
 B1 (st 1 v59 v57 pj) fun kL=>
 kV eI iK kL) (fun dK jH sK=>
 B2 (cf (.func (.func 106) [] []) [dK] sK) fun v64 mL=>
 B1 (aA 4 dK mL) fun ma=>
 B1 (st 4 jH ma mL) fun xm=>
 B1 (aA 4 jH xm) fun mE=>
 some (.tuple [mE,(.int .i64 0)],xm)))
theorem anY (J:JT)(G:GT)(cf:CF)(a0 a1:AV)(H:Hp):fK P J G aQ an cf 81 [a0,a1] H=CO J G cf a0 a1 H:=by kernel_rfl
theorem Ly {a0 a1:AV}{H:Hp}{r:AV × Hp}(h:CO JN GO cK a0 a1 H=some r):cK (.func (.func 81) [] []) [a0,a1] H=some r:=aS (first:=[]) (cap:=[]) ((anY JN GO _ a0 a1 H).trans h)
noncomputable def Uu (J:JT)(G:GT)(cf:CF)(a0 a1:AV)(H:Hp):R:=
 BN (bx 99 a0 H) fun i0 h1=>
 B1 (fa 5 (.ptr i0 0)) fun v2=>
 B1 (ld v2 h1) fun v3=>
 B1 (ld a1 h1) fun v4=>
 B1 (seq v3 v4) fun v5=>
 G v5 true (fun k6=>
 B1 (ld a1 h1) fun v7=>
 k6 v7 h1) (fun v8 h9=>
 G v5 true (fun Aj=>
 B1 (qN v8 (.str [])) fun v11=>
 Aj v11 h9) (fun v12 iP=>
 B1 (pk v5 v12 (.bool false)) fun cI=>
 some (cI,iP)) h9) h1
theorem amG {a0 a1:AV}{H:Hp}{r:AV × Hp}(h:Uu JN GO cK a0 a1 H=some r):cK (.func (.func 110) [] [a1]) [a0] H=some r:=aS (first:=[]) (cap:=[a1]) (aal (by kernel_rfl) h)
noncomputable def KG (J:JT)(G:GT)(cf:CF)(eP:K.Fn 1)(FU:K.Fn 3)(bc bC bB:AV)(dW:Hp):R:=
 J 3 (fun xM=>
 J 4 (fun jP=>
 B1 (cx bB bc) fun v29=>
 G v29 true (fun Ii=>
 Ii bC dW) (fun v31 eF=>
 G v29 true (fun Fj=>
 B1 (cx v31 (.int .i64 64000)) fun dJ=>
 Fj dJ eF) (fun v35 na=>
 B1 (pk v29 v35 (.bool false)) fun v37=>
 jP bc bC bB v37 na) eF) dW) (fun cG cF cp dD gj=>
 CD dD (
 xM cG cF cp gj) (
 eP cF gj))) (fun dP iK fC jj=>
 B1 (By iK (.int .u64 1)) fun je=>
 B2 (gp P .min #[2,2] [je,(.int .i64 64000)] jj) fun gB sB=>
 B1 (bS fC (.int .i64 1)) fun ij=>
 FU dP gB ij sB)
noncomputable def ER (J:JT)(G:GT)(cf:CF)(eP:K.Fn 1):K.Fn 3:=dZ P an J G cf 145 [1,1,1,0,1,0,0] [1,5,6] (fun q t H=>match Nat.beq q 0 with | true=>app 1 eP (ax [5] t) H | false=>(fun _ _ _=>none) q t H)
theorem Wp (cf:CF)(eP:K.Fn 1)(bc bC bB:AV)(dW:Hp):ER JN GO cf eP bc bC bB dW=KG JN GO cf eP (ER JN GO cf eP) bc bC bB dW:=aal (b:=app 3 (ER JN GO cf eP) [bc,bC,bB] dW) (by kernel_rfl) ((eU cf 145 [1,1,1,0,1,0,0] [1,5,6] _ [bc,bC,bB] rfl dW).trans (by kernel_rfl))
noncomputable def Y7 (J:JT)(G:GT)(cf:CF)(a0 a1:AV)(H:Hp):R:=
 J 2 (fun j0=>
 J 3 (fun j1=>
 B1 (cx a0 (.int .i64 1)) fun v2=>
 G v2 false (fun k3=>
 k3 a1 H) (fun v4 h5=>
 G v2 false (fun k6=>
 B1 (cx v4 (.int .i64 1)) fun v7=>
 k6 v7 h5) (fun v8 h9=>
 B1 (pk v2 (.bool true) v8) fun v10=>
 j1 a0 a1 v10 h9) h5) H) (fun bG bo ba ie=>
 CD ba (
 some ((.int .i64 0),ie)) (
 j0 bG bo ie))) (fun bp bH dI=>
 B2 (gp P .min #[2,2] [bp,(.int .i64 64000)] dI) fun dy cU=>
 J 1 (fun aF=>
 J 1 (fun eP=>
 ER J G cf eP bH dy (.int .i64 1) cU) (fun gJ nO=>
 aF gJ nO)) (fun eL wI=>
 some (eL,wI)))
theorem ahp {a0 a1:AV}{H:Hp}{r:AV × Hp}(h:Y7 JN GO cK a0 a1 H=some r):cK (.func (.func 145) [] []) [a0,a1] H=some r:=aS (first:=[]) (cap:=[]) (aal (by kernel_rfl) h)
noncomputable def ZV (J:JT)(G:GT)(cf:CF)(a0 a1:AV)(H:Hp):R:=
 B2 (cf (.func (.func 86) [] []) [a0,a1] H) fun v0 h1=>
 B1 (lS v0 (.int .i64 0)) fun v2=>
 some (v2,h1)
theorem ap1 {a0 a1:AV}{H:Hp}{r:AV × Hp}(h:ZV JN GO cK a0 a1 H=some r):cK (.func (.func 50) [] []) [a0,a1] H=some r:=aS (first:=[]) (cap:=[]) (aal (by kernel_rfl) h)
noncomputable def Um (J:JT)(G:GT)(cf:CF)(a0 a1:AV)(H:Hp):R:=
 B2 (cf (.func (.func 115) [] []) [a0,a1,(.bool true)] H) fun v0 h1=>
 some (v0,h1)
theorem ahs {a0 a1:AV}{H:Hp}{r:AV × Hp}(h:Um JN GO cK a0 a1 H=some r):cK (.func (.func 86) [] []) [a0,a1] H=some r:=aS (first:=[]) (cap:=[]) (aal (by kernel_rfl) h)
noncomputable def K7 (J:JT)(G:GT)(cf:CF)(j3:K.Fn 0)(j4:K.Fn 3)(x5 x6 x7:AV)(h8:Hp):R:=
 B2 (u6 x7 true h8) fun v9 bU=>
 B1 (ex 0 v9) fun v11=>
 CD v11 (
 B1 (ex 1 v9) fun v12=>
 B1 (ex 2 v9) fun dN=>
 J 5 (fun Ao=>
 B2 (cf x5 [dN] bU) fun gE bD=>
 B1 (bb .eql gE x6) fun eH=>
 Ao x5 x6 v12 x7 eH bD) (fun bE df cY aU aN cB=>
 CD aN (
 some (cY,cB)) (
 j4 bE df aU cB))) (
 j3  bU)
noncomputable def HY (J:JT)(G:GT)(cf:CF)(j3:K.Fn 0):K.Fn 3:=dZ P an J G cf 115 [1,0,1,0,0] [1,2,10] (fun q t H=>match Nat.beq q 0 with | true=>app 0 j3 (ax [] t) H | false=>(fun _ _ _=>none) q t H)
theorem Qh (cf:CF)(j3:K.Fn 0)(x5 x6 x7:AV)(h8:Hp):HY JN GO cf j3 x5 x6 x7 h8=K7 JN GO cf j3 (HY JN GO cf j3) x5 x6 x7 h8:=aal (b:=app 3 (HY JN GO cf j3) [x5,x6,x7] h8) (by kernel_rfl) ((eU cf 115 [1,0,1,0,0] [1,2,10] _ [x5,x6,x7] rfl h8).trans (by kernel_rfl))
noncomputable def Z7 (J:JT)(G:GT)(cf:CF)(a0 a1 a2:AV)(H:Hp):R:=
 J 0 (fun j0=>
 B2 (xy P 9 a0 H) fun v1 h2=>
 J 0 (fun j3=>
 HY J G cf j3 a1 a2 v1 h2) (fun  jh=>
 j0  jh)) (fun  dC=>
 some ((.int .i64 (-1)),dC))
theorem apA {a0 a1 a2:AV}{H:Hp}{r:AV × Hp}(h:Z7 JN GO cK a0 a1 a2 H=some r):cK (.func (.func 115) [] []) [a0,a1,a2] H=some r:=aS (first:=[]) (cap:=[]) (aal (by kernel_rfl) h)
end
end Go.Proofs.YtodfajmihkagnaaGreatDoor.DfK
