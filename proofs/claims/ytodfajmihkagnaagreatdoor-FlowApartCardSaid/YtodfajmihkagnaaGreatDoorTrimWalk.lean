/- strings.Trim at a cutset of ASCII bytes, as a contract of the evaluator (out of the library's own contract). No conditions. -/
import Derived.Test.YtodfajmihkagnaaGreatDoorAm9
import Derived.Test.YtodfajmihkagnaaGreatDoorShelf
import Derived.ProofKit
import Derived.Shelf.SortM.Plain
import Derived.Shelf.SortM.SortNone
import Derived.Shelf.Strconv.Itoa0
import Derived.Shelf.Strconv.Itoa2
import Derived.Shelf.Strconv.AtoiAll
import Derived.Test.YtodfajmihkagnaaGreatDoorAm14
import Derived.Test.YtodfajmihkagnaaGreatDoorProg
import Derived.Test.YtodfajmihkagnaaGreatDoorRows
import Derived.KernelRfl
set_option maxRecDepth 100000
set_option linter.unusedVariables false
set_option linter.unusedSimpArgs false
namespace Go.Proofs.YtodfajmihkagnaaGreatDoor.WT
open Go Go.Proofs Go.RowKit Go.Shelf
theorem afu:Am.xA Tryz.prog 91 Am.Ee:=by
 refine Am.anu (fun aY w=>Am.wJ (by unfold Am.oz;kernel_rfl) Tryz.func91 rfl aY w) ?_
 intro s c w hs hc ha
 exact Any.strings_Trim_laid Tryz.lays160 (by kernel_rfl) s c w hs hc ha
end Go.Proofs.YtodfajmihkagnaaGreatDoor.WT
namespace Go.Proofs.YtodfajmihkagnaaGreatDoor.iu
open Go Am Go.Sort Go.RowKit Go.Proofs
def Ip:AV->Option Int
 | .int .i64 z=>some z
 | _=>none
def yc:List AV->Option (List Int)
 | []=>some []
 | v::r=>match Ip v,yc r with
  | some z,some l=>some (z::l)
  | _,_=>none
def qS (l:List Int):List AV:=l.map (AV.int .i64)
def pJ (l:List Int):List Int:=l.mergeSort fun x y=>decide (x<=y)
theorem ai9 {v:AV} {z:Int} (h:Ip v=some z):v = .int .i64 z:=by
 unfold Ip at h
 split at h
 ·cases h;rfl
 ·cases h
theorem Ux:∀ {l:List AV} {zs:List Int},yc l=some zs->l=qS zs
 | [],zs,h=>by cases h;rfl
 | v::r,zs,h=>by
  unfold yc at h
  split at h
  ·rename_i z l h1 h2
   cases h
   rw[ai9 h1,Ux h2]
   rfl
  ·cases h
theorem We:∀ (zs:List Int),yc (qS zs)=some zs
 | []=>rfl
 | z::zs=>by
  show (match Ip (AV.int .i64 z),yc (qS zs) with | some z,some l=>some (z::l) | _,_=>none)=_
  rw[We zs]
  rfl
theorem Ss (l:List Int):(pJ l).length=l.length:=(List.mergeSort_perm l _).length_eq
noncomputable section
def ahR (H:Hp) (i off:Nat) (c:Tr AV) (lo hi el fl:Nat) (r:Option (List Int)):Option (AV × Hp):=match r with
 | some zs=>some (.tuple [],{ H with h:=H.h.bX i (.cells (c.cC off (qS (pJ zs))) lo hi el fl) })
 | none=>none
open Classical in
def LD (H:Hp) (i off n:Nat) (o:AO):Option (AV × Hp):=match o with
 | .cells c lo hi el fl=>if lo<=off/\off+n<=hi/\fl<=1 then ahR H i off c lo hi el fl ((av H i off n).bind yc) else none
 | _=>none
open Classical in
def sP:Prim:=fun args H=>match args with
 | [.ah]=>some (.tuple [],H)
 | [.slice i off n cap ex es]=>if n=0 then some (.tuple [],H) else if es=1/\n<4611686018427387904 then (H.h.get i).bind (LD H i off n) else none
 | _=>none
end
theorem He (e:Em):VR e (.tuple []) (.tuple #[]) := .tuple [] #[] rfl (fun i v v' h=>by simp at h)
theorem ahi {f:Nat} (BI:∀ aY w,(callFunc f aY).run Tryz.prog w = .ok (.enter f aY) w)
  (h0:∀ (p:Option Addr) (cap:Nat) (w:World),Calls Tryz.prog f #[.slice p 0 cap] w fun e w'=>e = .returned (.tuple #[])/\w'=w)
  (h1:∀ (cz off cap:Nat) (zs:List Int) (w:World),Holds (Value.int .i64) w cz off zs.toArray->cz<w.heap.size->zs.length<4611686018427387904->
   Calls Tryz.prog f #[.slice (some ⟨cz,off,none⟩) zs.length cap] w fun e w'=>e = .returned (.tuple #[])/\∃ n os,w'=grow (putRow (Value.int .i64) (Sort.ahead w n) cz off (zs.mergeSort fun x y=>decide (x<=y)).toArray) os):xA Tryz.prog f sP:=by
 intro args H v H' hp Fr W e w aY hR ha
 unfold sP at hp
 split at hp
 ·obtain⟨a',r1,e1,mh,iG⟩:=ha.cons_inv
  have e3:=iG.jQ
  subst e3
  cases hp
  cases mh
  obtain rfl:aY = #[.slice none 0 0]:=ado.1 e1
  refine⟨BI _ _,(h0 none 0 w).mono ?_⟩
  rintro en w' ⟨rfl,rfl⟩
  exact⟨e,_,rfl,e.le_refl,hR,He e⟩
 ·rename_i i off n cap ex es
  obtain⟨a',r1,e1,mh,iG⟩:=ha.cons_inv
  have e3:=iG.jQ
  subst e3
  split at hp
  ·rename_i lq
   subst lq
   cases hp
   rcases mh.lz with⟨o,c,k1,k2,k3,k4,k5,k6,rfl⟩ | ⟨_,_,a,rfl⟩
   ·obtain rfl:aY = #[.slice (some ⟨e.b i,o,none⟩) 0 c]:=ado.1 e1
    refine⟨BI _ _,(h0 _ c w).mono ?_⟩
    rintro en w' ⟨rfl,rfl⟩
    exact⟨e,_,rfl,e.le_refl,hR,He e⟩
   ·obtain rfl:aY = #[.slice (some a) 0 0]:=ado.1 e1
    refine⟨BI _ _,(h0 _ 0 w).mono ?_⟩
    rintro en w' ⟨rfl,rfl⟩
    exact⟨e,_,rfl,e.le_refl,hR,He e⟩
  ·rename_i lq
   split at hp
   ·rename_i dK
    obtain⟨rfl,Ak⟩:=dK
    rcases mh.lz with⟨o,cc,k1,k2,k3,k4,k5,k6,rfl⟩ | ⟨q,_,a,rfl⟩
    ·obtain⟨ob0,hg,hp⟩:=abz.1 hp
     unfold LD at hp
     split at hp
     ·rename_i c lo hi el fl
      split at hp
      ·rename_i rX
       obtain⟨g1,g2,g3⟩:=rX
       cases hr:(av H i off n).bind yc with
       | none=>rw[hr] at hp;cases hp
       | some zs=>
        rw[hr] at hp
        cases hp
        obtain⟨l,hl,hz⟩:=abz.1 hr
        have V5:=Ux hz
        obtain⟨cs,c1,c2,c3⟩:=hR.yU hl k2
        have hzn:zs.length=n:=by rw[<-c2,c1.1,V5];simp[qS]
        have fy:∀ j z,zs[j]? = some z->w.cell? ⟨e.b i,o+j,none⟩=some (.int .i64 z):=by
         intro j z hj
         obtain⟨v',cl,eV⟩:=c1.get (i:=j) (v := .int .i64 z) (by rw[V5];simp[qS,hj])
         have:=eV.fN
         subst this
         exact c3 j _ cl
        obtain⟨hN,ob,ep,eg,hF⟩:=hR.obj i _ hg
        cases eg with
        | cells _ _ _ _ _ C fz hn ik QD Aw hd=>
         have eH:o+n<=C.size:=by rw[hn];omega
         have hH:Holds (Value.int .i64) w (e.b i) o zs.toArray:=by
          intro j hj
          have jn:j<zs.length:=by simpa using hj
          refine⟨?_,?_⟩
          ·rw[fy j zs[j] (aaM jn)]
           simp[jn]
          ·have:=Aw g3 (o+j) (by omega)
           simp only[World.frozen?,ep]
           exact this
         obtain rfl:aY = #[.slice (some ⟨e.b i,o,none⟩) n cc]:=ado.1 e1
         have Fo:=h1 (e.b i) o cc zs w hH (ab6.1 ep).1 (by omega)
         rw[hzn] at Fo
         refine⟨BI _ _,Fo.mono ?_⟩
         rintro en w' ⟨rfl,m,os,rfl⟩
         refine⟨e,_,rfl,e.le_refl,?_,He e⟩
         have oO:=hR.drawn (w.drawn+m)
         have aD:(zs.mergeSort fun x y=>decide (x<=y))=pJ zs:=rfl
         have oI:=Ss zs
         rw[aD]
         generalize pJ zs=ss at *
         have gJ:RH Tryz.prog.globals.size Fr W e { H with h:=H.h.bX i (.cells (c.cC off (qS ss)) lo hi el fl) } (putRow (Value.int .i64) (Sort.ahead w m) (e.b i) o ss.toArray):=by
          refine oO.put hg (by simp[wr,g3]) (oZ := .cells (putCells (Value.int .i64) o ss.toArray C) el fz) ?_ ?_ ?_ ?_ rfl rfl rfl
          ·simp[putRow,mapBlock,Sort.ahead]
          ·simp only[putRow,mapBlock,Sort.ahead]
           rw[CQ _ _ _ ep]
           rfl
          ·intro k hk
           simp only[putRow,mapBlock,Sort.ahead]
           rw[CR _ _ _ _ (fun q=>hk q.symm)]
          ·have la:(putCells (Value.int .i64) o ss.toArray C).size=C.size:=by simp[putCells]
           refine .cells _ lo hi el fl _ fz (by rw[la];exact hn) ?_ QD (by rw[la];exact Aw) hd
           intro k u a b hk
           rw[Tr.uj] at hk
           have iv:(qS ss).length=n:=by simp[qS];omega
           rw[iv] at hk
           by_cases gU:off<=k/\k<off+n
           ·rw[if_pos gU] at hk
            have qj:k-off<ss.length:=by omega
            have hu:u = .int .i64 ss[k-off]:=by
             have:(qS ss)[k-off]? = some (.int .i64 ss[k-off]):=by simp[qS,qj]
             rw[this] at hk
             exact (acy hk).symm
            subst hu
            refine⟨o+(k-off),by omega,.int .i64 ss[k-off],?_,.int _ _⟩
            have hC:o+(k-off)<C.size:=by omega
            simp only[putCells]
            rw[Array.getElem?_mapIdx,aeC hC]
            simp only[ady,List.size_toArray]
            rw[if_pos (by omega),adG]
            simp[qj]
           ·rw[if_neg gU] at hk
            obtain⟨IQ,yJ,u',iW,eV⟩:=ik k u a b hk
            refine⟨IQ,yJ,u',?_,eV⟩
            simp only[putCells]
            rw[Array.getElem?_mapIdx,iW]
            simp only[ady,List.size_toArray]
            rw[if_neg (by omega)]
         exact gJ.below ⟨rfl,rfl,rfl,by simp[grow],fun k hk=>by
          simp only[grow]
          rw[Array.getElem?_append_left hk]⟩
      ·cases hp
     ·cases hp
    ·omega
   ·cases hp
 ·cases hp
theorem aiP:xA Tryz.prog 192 sP:=
 ahi (fun aY w=>wJ (by unfold oz;kernel_rfl) Tryz.func192 rfl aY w)
  (fun p cap w=>AnyM.slices_Sort_int_none Tryz.sortN p cap w) (fun cz off cap zs w hH hb hl=>AnyM.slices_Sort_int Tryz.sortN cz off cap zs w hH hb hl)
end Go.Proofs.YtodfajmihkagnaaGreatDoor.iu
namespace Go.Proofs.YtodfajmihkagnaaGreatDoor.lH
open Go Am Go.Sort Go.RowKit Go.Proofs iu
theorem L3:oz Tryz.prog:=by unfold oz;kernel_rfl
noncomputable section
open Classical in
def G9:Prim:=fun args H=>match args with
 | [.int .u64 x]=>if 0<=x/\x<=18446744073709551615 then some (.int .i64 (Lib.bitLen x.toNat),H) else none
 | _=>none
def nL (u n:Nat):List AV:=(List.range n).map fun t=>AV.int .u8 ((Lib.dg u (n-1-t)).toNat)
open Classical in
def MW (H:Hp) (i off n u:Nat) (o:AO):Option (AV × Hp):=match o with
 | .cells c lo hi el fl=>if lo<=off/\off+n<=hi/\fl<=1/\(∃ l,av H i off n=some l/\∀ v∈l,∃ b:Nat,b<256/\v = .int .u8 b) then some (.tuple [],{ H with h:=H.h.bX i (.cells (c.cC off (nL u n)) lo hi el fl) }) else none
 | _=>none
open Classical in
def Gs:Prim:=fun args H=>match args with
 | [.slice i off n cap ex es,.int .u64 u]=>if es=1/\0<n/\n<4611686018427387904/\0<=u/\u<18446744073709551616/\u.toNat<10 ^ n then (H.h.get i).bind (MW H i off n u.toNat) else none
 | _=>none
structure Iq (H:Hp):Prop where
 UA:∃ t p,cellAt H 6 0=some (.iface t p)
 Vq:∃ t p,cellAt H 7 0=some (.iface t p)
def u9 (s:List Nat):List UInt8:=s.map UInt8.ofNat
def I6 (s:List Nat):AV:=match Lib.atoiAll (u9 s) with
 | .ok v => .tuple [.int .i64 v,.nilIface]
 | .range => .tuple [.int .i64 (Lib.atoiSat (u9 s)),.iface 269 .du]
 | _ => .tuple [.int .i64 0,.iface 269 .du]
open Classical in
def Fq:Prim:=fun args H=>match args with
 | [.str s]=>if Iq H/\s.length<=281474976710656 then some (I6 s,H) else none
 | _=>none
end
theorem aic:xA Tryz.prog 182 G9:=by
 intro args H v H' hp F W e w aY hR ha
 unfold G9 at hp
 split at hp
 ·rename_i x
  split at hp
  ·rename_i hx
   cases hp
   obtain⟨a',r1,e1,mh,iG⟩:=ha.cons_inv
   have e3:=iG.jQ
   subst e3
   have:=mh.fN
   subst this
   obtain rfl:aY = #[.int .u64 x]:=ado.1 e1
   refine⟨wJ L3 Tryz.func182 rfl _ w,(Any.bits_Len64 Tryz.lays129 x w hx.1 hx.2).mono ?_⟩
   rintro en w' ⟨rfl,rfl⟩
   exact⟨e,_,rfl,e.le_refl,hR,.int _ _⟩
  ·cases hp
 ·cases hp
theorem VR.two {e:Em} {a b:AV} {a' b':Value} (h:VR e a a') (k:VR e b b'):VR e (.tuple [a,b]) (.tuple #[a',b']):=by
 refine .tuple _ _ rfl ?_
 intro i v v' h1 h2
 match i,h1,h2 with
 | 0,h1,h2=>cases h1;cases h2;exact h
 | 1,h1,h2=>cases h1;cases h2;exact k
theorem amr:xA Tryz.prog 166 Gs:=by
 intro args H v H' hp Fr W e w aY hR ha
 unfold Gs at hp
 split at hp
 ·rename_i i off n cap ex es u
  obtain⟨a',r1,e1,mh,iG⟩:=ha.cons_inv
  obtain⟨b',r2,e2,wu,nZ⟩:=iG.cons_inv
  have e3:=nZ.jQ
  subst e3
  have iW:=wu.fN
  subst iW
  split at hp
  ·rename_i hc
   obtain⟨rfl,lq,Ak,hu0,aoX,Y4⟩:=hc
   obtain⟨un,rfl⟩:∃ un:Nat,u=un:=⟨u.toNat,by omega⟩
   rw[ab9] at hp Y4
   rcases mh.lz with⟨o,cc,k1,k2,k3,k4,k5,k6,rfl⟩ | ⟨q,_,a,rfl⟩
   ·obtain⟨ob0,hg,hp⟩:=abz.1 hp
    unfold MW at hp
    split at hp
    ·rename_i c lo hi el fl
     split at hp
     ·rename_i rX
      obtain⟨g1,g2,g3,l,hl,my⟩:=rX
      cases hp
      obtain⟨cs,c1,c2,c3⟩:=hR.yU hl k2
      have oa:l.length=n:=by rw[<-c1.1,c2]
      obtain⟨d,gr,qg⟩:∃ d:List UInt8,d.length=n/\∀ (j:Nat) (z:UInt8),d[j]? = some z->l[j]? = some (AV.int .u8 (z.toNat:Int)):=by
       refine⟨l.map fun v=>match v with | AV.int _ b=>UInt8.ofNat b.toNat | _=>0,by simp[oa],fun j z hj => ?_⟩
       rw[ada,aaF] at hj
       obtain⟨v,hv,rfl⟩:=hj
       obtain⟨b,hb,rfl⟩:=my v (aa2 hv)
       rw[hv]
       simp only[ab9,UInt8.toNat_ofNat']
       rw[aix hb]
      have fy:∀ (j:Nat) (z:UInt8),d[j]? = some z->w.cell? ⟨e.b i,o+j,none⟩=some (.int .u8 (z.toNat:Int)):=by
       intro j z hj
       obtain⟨v',cl,eV⟩:=c1.get (qg j z hj)
       have:=eV.fN
       subst this
       exact c3 j _ cl
      obtain⟨hN,ob,ep,eg,hF⟩:=hR.obj i _ hg
      cases eg with
      | cells _ _ _ _ _ C fz hn ik QD Aw hd=>
       have eH:o+n<=C.size:=by rw[hn];omega
       have hH:Holds (fun (b:UInt8)=>Value.int .u8 (b.toNat:Int)) w (e.b i) o d.toArray:=by
        intro j hj
        have jn:j<d.length:=by simpa using hj
        refine⟨?_,?_⟩
        ·rw[fy j d[j] (aaM jn)]
         simp[jn]
        ·have:=Aw g3 (o+j) (by omega)
         simp only[World.frozen?,ep]
         exact this
       obtain rfl:aY = #[.slice (some ⟨e.b i,o,none⟩) n cc,.int .u64 un]:=ado.1 (by rw[e1,e2])
       have Fo:=Any.internal_strconv_formatBase10 Tryz.lays285 (e.b i) o cc un d.toArray w hH (by simpa[gr] using Y4) (by omega) (by simpa[gr] using Ak)
       have hdz:d.toArray.size=n:=by simp[gr]
       rw[hdz] at Fo
       refine⟨wJ L3 Tryz.func166 rfl _ w,Fo.mono ?_⟩
       rintro en w' ⟨rfl,m,v',dk,rfl,hinv⟩
       refine⟨e,_,rfl,e.le_refl,?_,He e⟩
       have hdk:∀ t,t<n->dk[t]! = Lib.dg un (n-1-t):=fun t ht=>hinv.done t (ab2 _) ht
       have hds:=hinv.size
       have iv:(nL un n).length=n:=by simp[nL]
       have gJ:RH Tryz.prog.globals.size Fr W e { H with h:=H.h.bX i (.cells (c.cC off (nL un n)) lo hi el fl) } (putRow (fun (b:UInt8)=>Value.int .u8 (b.toNat:Int)) w (e.b i) o dk):=by
        refine hR.put hg (by simp[wr,g3]) (oZ := .cells (putCells (fun (b:UInt8)=>Value.int .u8 (b.toNat:Int)) o dk C) el fz) ?_ ?_ ?_ ?_ rfl rfl rfl
        ·simp[putRow,mapBlock]
        ·simp only[putRow,mapBlock]
         rw[CQ _ _ _ ep]
         rfl
        ·intro k hk
         simp only[putRow,mapBlock]
         rw[CR _ _ _ _ (fun q=>hk q.symm)]
        ·have la:(putCells (fun (b:UInt8)=>Value.int .u8 (b.toNat:Int)) o dk C).size=C.size:=by simp[putCells]
         refine .cells _ lo hi el fl _ fz (by rw[la];exact hn) ?_ QD (by rw[la];exact Aw) hd
         intro k u' a b hk
         rw[Tr.uj,iv] at hk
         by_cases gU:off<=k/\k<off+n
         ·rw[if_pos gU] at hk
          have hj:k-off<n:=by omega
          have hu:u' = .int .u8 ((Lib.dg un (n-1-(k-off))).toNat):=by
           have:(nL un n)[k-off]? = some (.int .u8 ((Lib.dg un (n-1-(k-off))).toNat)):=by simp[nL,hj]
           rw[this] at hk
           exact (acy hk).symm
          subst hu
          refine⟨o+(k-off),by omega,.int .u8 ((Lib.dg un (n-1-(k-off))).toNat),?_,.int _ _⟩
          have hC:o+(k-off)<C.size:=by omega
          simp only[putCells]
          rw[Array.getElem?_mapIdx,aeC hC]
          simp only[ady]
          rw[if_pos (by omega),adG,hdk _ hj]
         ·rw[if_neg gU] at hk
          obtain⟨IQ,yJ,u2,rm,eV⟩:=ik k u' a b hk
          refine⟨IQ,yJ,u2,?_,eV⟩
          simp only[putCells]
          rw[Array.getElem?_mapIdx,rm]
          simp only[ady]
          rw[if_neg (by omega)]
       exact gJ.drawn _
     ·cases hp
    ·cases hp
   ·omega
  ·cases hp
 ·cases hp
theorem Iq.cells {Fr:Nat->Prop} {W:World} {e:Em} {H:Hp} {w:World} (h:Iq H) (hR:RH Tryz.prog.globals.size Fr W e H w) :
  (∃ t p,w.cell? ⟨6,0,none⟩=some (.iface t p))/\∃ t p,w.cell? ⟨7,0,none⟩=some (.iface t p):=by
 have qc:6<Tryz.prog.globals.size:=by rw[<-adq];kernel_rfl
 have Db:7<Tryz.prog.globals.size:=by rw[<-adq];kernel_rfl
 have key:∀ g k v,g<Tryz.prog.globals.size->cellAt H g (k:Nat)=some v->∃ v',w.cell? ⟨g,k,none⟩=some v'/\VR e v v':=by
  intro g k v hg hc
  obtain⟨_,o,ho,v',h1,h2⟩:=hR.load hc
  obtain⟨_,hb,hd⟩:=hR.pf g hg
  rw[hb] at h1
  rw[hd] at ho
  obtain rfl:o=k:=by omega
  exact⟨v',h1,h2⟩
 refine⟨?_,?_⟩
 ·obtain⟨t,p,hc⟩:=h.UA
  obtain⟨v',h1,h2⟩:=key _ 0 _ qc hc
  cases h2
  exact⟨_,_,h1⟩
 ·obtain⟨t,p,hc⟩:=h.Vq
  obtain⟨v',h1,h2⟩:=key _ 0 _ Db hc
  cases h2
  exact⟨_,_,h1⟩
theorem ala (s:ByteArray):u9 (Am.bytes s)=s.data.toList:=by
 unfold u9 Am.bytes
 rw[aiB,List.map_congr_left (g:=id) (fun x _=>by simp)]
 simp
theorem acC:xA Tryz.prog 173 Fq:=by
 intro args H v H' hp F W e w aY hR ha
 unfold Fq at hp
 split at hp
 ·rename_i s
  split at hp
  ·rename_i hx
   cases hp
   obtain⟨hE,hlen⟩:=hx
   obtain⟨a',r1,e1,mh,iG⟩:=ha.cons_inv
   have e3:=iG.jQ
   subst e3
   obtain⟨s',rfl,rfl⟩:=mh.lR
   obtain rfl:aY = #[.string s']:=ado.1 e1
   refine⟨wJ L3 Tryz.func173 rfl _ w,?_⟩
   have hl:s'.size<=281474976710656:=by
    have:s'.size=(Am.bytes s').length:=by simp[Am.bytes]
    omega
   obtain⟨⟨t1,p1,q1⟩,⟨t2,p2,q2⟩⟩:=hE.cells hR
   unfold I6
   rw[ala]
   cases hr:Lib.atoiAll s'.data.toList with
   | ok v=>
    refine (Any.strconv_Atoi_ok Tryz.laysC172 s' (by omega) v hr w).mono ?_
    rintro en w' ⟨rfl,hw⟩
    refine⟨e,_,rfl,e.le_refl,?_,VR.two (.int _ _) .nilIface⟩
    rcases hw with rfl | ⟨t,rfl⟩
    ·exact hR
    ·exact hR.below (Lib.bytesWorld_below _ _ _)
   | range=>
    refine (Any.strconv_Atoi_range Tryz.laysC172 s' hl hr _ w q2 (.inr ⟨_,_,rfl⟩)).mono ?_
    rintro en w' ⟨N,rfl,_,_,hb⟩
    exact⟨e,_,rfl,e.le_refl,hR.below hb,VR.two (.int _ _) (.iface _ _ _ (.du _))⟩
   | _=>
    refine (Any.strconv_Atoi_syntax Tryz.laysC172 s' hl hr _ w q1 (.inr ⟨_,_,rfl⟩)).mono ?_
    rintro en w' ⟨N,rfl,_,_,hb⟩
    exact⟨e,_,rfl,e.le_refl,hR.below hb,VR.two (.int _ _) (.iface _ _ _ (.du _))⟩
  ·cases hp
 ·cases hp
end Go.Proofs.YtodfajmihkagnaaGreatDoor.lH
namespace Go.Proofs.YtodfajmihkagnaaGreatDoor.mf
open Go Go.RowKit Am
def ext (g:Nat):Option Ext:=bif Nat.beq g 168 then some .same else bif Nat.beq g 169 then some (.Fw 52) else bif Nat.beq g 197 then some .Kg else bif Nat.beq g 171 then some .count else none
theorem W7:vY Tryz.prog ext:=by
 intro bf k h aY w
 unfold ext at h
 cases h1:Nat.beq bf 168 with
 | true=>
  rw[h1] at h
  cases h
  obtain rfl:=abC h1
  exact KE (e:=Extern.AbiNoEscape.same) Tryz.func168 (by kernel_rfl) (by kernel_rfl) (by kernel_rfl) (by kernel_rfl) rfl aY w
 | false=>
  rw[h1] at h
  clear h1
  cases h1:Nat.beq bf 169 with
  | true=>
   rw[h1] at h
   cases h
   obtain rfl:=abC h1
   exact KE (e:=Extern.BytealgMakeNoZero.makeNoZero #[] #[52]) Tryz.func169 (by kernel_rfl) (by kernel_rfl) (by kernel_rfl) (by kernel_rfl) rfl aY w
  | false=>
   rw[h1] at h
   clear h1
   cases h1:Nat.beq bf 197 with
   | true=>
    rw[h1] at h
    cases h
    obtain rfl:=abC h1
    exact KE (e:=Extern.BytealgIndexByte.indexByte) Tryz.func197 (by kernel_rfl) (by kernel_rfl) (by kernel_rfl) (by kernel_rfl) rfl aY w
   | false=>
    rw[h1] at h
    clear h1
    cases h1:Nat.beq bf 171 with
    | true=>
     rw[h1] at h
     cases h
     obtain rfl:=abC h1
     exact KE (e:=Extern.BytealgCount.count) Tryz.func171 (by kernel_rfl) (by kernel_rfl) (by kernel_rfl) (by kernel_rfl) rfl aY w
    | false=>
     rw[h1] at h
     clear h1
     cases h
noncomputable def JX (g:Nat):Option Prim:=bif Nat.beq g 91 then some Am.Ee else none
theorem Xd:tU Tryz.prog JX:=by
 intro bf p h args H v H' hp
 unfold JX at h
 cases h1:Nat.beq bf 91 with
 | true=>
  rw[h1] at h
  cases h
  obtain rfl:=abC h1
  exact WT.afu args H v H' hp
 | false=>
  rw[h1] at h
  clear h1
  cases h
theorem US:oz Tryz.prog:=by unfold oz;kernel_rfl
theorem mixed:Tryz.prog.follows .mixedOrders=true:=by kernel_rfl
def Ji:List Int:=[1,10,100,1000,10000,100000,1000000,10000000,100000000,1000000000,10000000000,100000000000,1000000000000,10000000000000,100000000000000,1000000000000000,10000000000000000,100000000000000000,1000000000000000000,10000000000000000000]
def Xl:List Int:=[0,1,28,2,29,14,24,3,30,22,20,15,25,17,4,8,31,27,13,23,21,19,16,7,26,12,18,6,11,5,10,9]
def Wu:List Int:=[0,1,56,2,57,49,28,3,61,58,42,50,38,29,17,4,62,47,59,36,45,43,51,22,53,39,33,30,24,18,12,5,63,55,48,27,60,41,37,16,46,35,44,21,52,32,23,11,54,26,40,15,34,20,31,10,25,14,19,9,13,8,7,6]
def mJ:List (Nat × List AV):=[(0,Ji.map (AV.int .u64)),(4,Xl.map (AV.int .u8)),(5,Wu.map (AV.int .u8)),(6,[.iface 290 (.ptr 10 0)]),(7,[.iface 290 (.ptr 9 0)])]
abbrev laid : List (String × DataW Unit) := [("math/bits.deBruijn32tab", Rows.laid_math_bits_deBruijn32tab), ("math/bits.deBruijn64tab", Rows.laid_math_bits_deBruijn64tab), ("internal/strconv.uint64pow10", Rows.laid_internal_strconv_uint64pow10), ("unicode/utf8.acceptRanges", Rows.laid_unicode_utf8_acceptRanges), ("strconv.ErrRange", Rows.laid_strconv_ErrRange), ("strconv.ErrSyntax", Rows.laid_strconv_ErrSyntax), ("unicode/utf8.first", Rows.laid_unicode_utf8_first)]
theorem star : "*" ++ "errors.errorString" = "*errors.errorString" := by decide
theorem XZ (u : TypeId) (h : Tryz.prog.typeName? 3 u = some "*errors.errorString") : u = 290 :=
 typeName_ptr_named (nm := "errors.errorString") (by rw[star];kernel_rfl) (by kernel_rfl) (by decide) u (by rw[star];exact h)
theorem acA {W:World} (h:laidMet Tryz.prog laid W) (eH:8<=W.heap.size) (bx:Nat->Nat) (dx:Nat->Int) (nx:Nat->Nat) {N:Nat} (hN:11<=N) {PO:List (Nat × AO)}
  (hP:∀ i o,(i,o)∈PO->11<=i/\i<N/\wr o=false/\∃ ob,W.heap[bx i]? = some ob/\∀ e:Em,e.N=N->(∀ j,11<=j->e.b j=bx j/\e.d j=dx j/\e.n j=nx j)->OR e i o ob) :
  ∃ e,RH Tryz.prog.globals.size (fun k=>k<W.heap.size) W e ⟨qY PO (pO (zq W) mJ),N⟩ W/\e.N=N/\∀ j,11<=j->e.b j=bx j/\e.d j=dx j/\e.n j=nx j:=by
 have hs:Tryz.prog.globals.size=8:=by kernel_rfl
 rw[hs]
 obtain⟨b0, o0, t0, w0⟩ := RF (n := "strconv.ErrRange") (nm := "*errors.errorString") (tp := 290) (te := 292) (ts := 9) h (.tail _ (.tail _ (.tail _ (.tail _ (.head _))))) (g := 7) (ti := 183) (by kernel_rfl) (by kernel_rfl) Tryz.underlying183 XZ Tryz.underlying290 Tryz.underlying292 rfl rfl Tryz.underlying9 (by kernel_rfl) (by kernel_rfl)
 obtain⟨b1, o1, t1, w1⟩ := RF (n := "strconv.ErrSyntax") (nm := "*errors.errorString") (tp := 290) (te := 292) (ts := 9) h (.tail _ (.tail _ (.tail _ (.tail _ (.tail _ (.head _)))))) (g := 6) (ti := 183) (by kernel_rfl) (by kernel_rfl) Tryz.underlying183 XZ Tryz.underlying290 Tryz.underlying292 rfl rfl Tryz.underlying9 (by kernel_rfl) (by kernel_rfl)
 let bz:Nat->Nat:=fun i=>if i=9 then b0 else if i=10 then b1 else bx i
 let dz:Nat->Int:=fun i=>if i=9 then (o0:Int) else if i=10 then (o1:Int) else dx i
 have T0 := fun em : Em => PF (name := "internal/strconv.uint64pow10") (k := .u64) (zs := Ji) h (.tail _ (.tail _ (.head _))) (g := 0) (by kernel_rfl) (by kernel_rfl) Tryz.underlying254 Tryz.underlying118 (by kernel_rfl) (by kernel_rfl) (by decide) em
 have T4 := fun em : Em => PF (name := "math/bits.deBruijn32tab") (k := .u8) (zs := Xl) h (.head _) (g := 4) (by kernel_rfl) (by kernel_rfl) Tryz.underlying273 Tryz.underlying5 (by kernel_rfl) (by kernel_rfl) (by decide) em
 have T5 := fun em : Em => PF (name := "math/bits.deBruijn64tab") (k := .u8) (zs := Wu) h (.tail _ (.head _)) (g := 5) (by kernel_rfl) (by kernel_rfl) Tryz.underlying274 Tryz.underlying5 (by kernel_rfl) (by kernel_rfl) (by decide) em
 have hj:∀ j,11<=j->(Am.start W 8 N bz dz nx).b j=bx j/\(Am.start W 8 N bz dz nx).d j=dx j/\(Am.start W 8 N bz dz nx).n j=nx j:=by
  intro j hj
  refine⟨?_,?_,?_⟩<;>simp only[Am.start,bz,dz]<;>(repeat rw[if_neg (by omega)])
 refine⟨Am.start W 8 N bz dz nx,RH.start bz dz nx (by omega) (by decide) eH ?_ ?_,rfl,hj⟩
 ·intro g l hm
  simp only[mJ,abn,ab7,List.mem_nil_iff,or_false] at hm
  rcases hm with⟨rfl,rfl⟩ | ⟨rfl,rfl⟩ | ⟨rfl,rfl⟩ | ⟨rfl,rfl⟩ | ⟨rfl,rfl⟩
  ·exact⟨by decide,by decide,T0 _⟩
  ·exact⟨by decide,by decide,T4 _⟩
  ·exact⟨by decide,by decide,T5 _⟩
  ·refine⟨by decide,by decide,_,t1,w1,fun k v hv => ?_⟩
   cases k with
   | zero=>
    simp only[acP,acu] at hv
    subst hv
    exact⟨_,rfl,.iface _ _ _ (.ptr (e:=Am.start W 8 N bz dz nx) 10 0 o1 (show (10:Nat)<N by omega) (by simp[Am.start,dz]))⟩
   | succ k=>simp at hv
  ·refine⟨by decide,by decide,_,t0,w0,fun k v hv => ?_⟩
   cases k with
   | zero=>
    simp only[acP,acu] at hv
    subst hv
    exact⟨_,rfl,.iface _ _ _ (.ptr (e:=Am.start W 8 N bz dz nx) 9 0 o0 (show (9:Nat)<N by omega) (by simp[Am.start,dz]))⟩
   | succ k=>simp at hv
 ·intro i o hm
  obtain⟨h1,h2,h3,ob,h4,h5⟩:=hP i o hm
  exact⟨by omega,h2,h3,ob,by have:=(hj i h1).1;simp only[Am.start,if_neg (show ¬ i<8 by omega)] at this;rw[this];exact h4,h5 _ rfl hj⟩
theorem akU:Tryz.prog.globals.size<11:=by
 have hs:Tryz.prog.globals.size=8:=by kernel_rfl
 omega
theorem ads (el:Nat->TypeId):JC (Kp (Tryz.prog) ext JX 20000 11 [] ⟨pO el mJ,11⟩)=true:=by kernel_rfl
theorem aml:xA Tryz.prog 11 (DI mJ 11):=
 ae4 mixed US W7 Xd Tryz.func11 rfl akU
  (by
   have hs:Tryz.prog.globals.size=8:=by kernel_rfl
   rw[hs]
   intro g l hm
   simp only[mJ,abn,ab7,List.mem_nil_iff,or_false] at hm;rcases hm with⟨rfl,rfl⟩ | ⟨rfl,rfl⟩ | ⟨rfl,rfl⟩ | ⟨rfl,rfl⟩ | ⟨rfl,rfl⟩<;>exact⟨by decide,by decide,by decide,by decide⟩) fun el=>ads el
noncomputable def Om (g:Nat):Option Prim:=bif Nat.beq g 182 then some lH.G9 else bif Nat.beq g 166 then some lH.Gs else bif Nat.beq g 173 then some lH.Fq else bif Nat.beq g 192 then some iu.sP else JX g
theorem aeX:tU Tryz.prog Om:=by
 intro bf p h args H v H' hp
 unfold Om at h
 cases h1:Nat.beq bf 182 with
 | true=>
  rw[h1] at h
  cases h
  obtain rfl:=abC h1
  exact lH.aic args H v H' hp
 | false=>
  rw[h1] at h
  clear h1
  cases h1:Nat.beq bf 166 with
  | true=>
   rw[h1] at h
   cases h
   obtain rfl:=abC h1
   exact lH.amr args H v H' hp
  | false=>
   rw[h1] at h
   clear h1
   cases h1:Nat.beq bf 173 with
   | true=>
    rw[h1] at h
    cases h
    obtain rfl:=abC h1
    exact lH.acC args H v H' hp
   | false=>
    rw[h1] at h
    clear h1
    cases h1:Nat.beq bf 192 with
    | true=>
     rw[h1] at h
     cases h
     obtain rfl:=abC h1
     exact iu.aiP args H v H' hp
    | false=>
     rw[h1] at h
     clear h1
     exact Xd bf p h args H v H' hp
noncomputable def aU (g:Nat):Option Prim:=bif Nat.beq g 11 then some (DI mJ 11) else Om g
theorem amd:tU Tryz.prog aU:=by
 intro bf p h args H v H' hp
 unfold aU at h
 cases h1:Nat.beq bf 11 with
 | true=>
  rw[h1] at h
  cases h
  obtain rfl:=abC h1
  exact aml args H v H' hp
 | false=>
  rw[h1] at h
  clear h1
  exact aeX bf p h args H v H' hp
theorem ags {Q:Type} {enc:TypeId × Value->Q} {g:Nat} {fn:Func} {b:Code} (hf:Tryz.prog.funcs[g]? = some fn) (hb:fn.body=some b) (an:Nat->K.An) (hA:K.vL Tryz.prog an) {W:World} (hL:laidMet Tryz.prog laid W) (eH:8<=W.heap.size) {base:Nat} {spare:Nat->Bool} {held:Bool} (ml:∀ b,spare b=true) {qM:List K.Ty} {vs:List Value}
  (ha:K.EY enc Tryz.prog W base spare held qM vs) (law:∀ H aY ds,K.DL H qM aY ds->y9 H mJ->11<=H.next->∃ H',K.CK Tryz.prog (K.qQ Tryz.prog) ext aU an (.func (.func g) [] []) aY H=some (.bool true,H')) :
  Calls Tryz.prog g vs.toArray W fun en w'=>en = .returned (.bool true)/\Below W.heap.size W w':=by
 obtain⟨aY,os,ds,a1,a2,a3,a4⟩:=K.abm ml ha 11
 have hs:Tryz.prog.globals.size=8:=by kernel_rfl
 obtain⟨e,hR,hN,hj⟩:=acA hL eH (fun i=>((os[i-11]?).map (·.b)).getD 0) (fun _=>0) (fun i=>((os[i-11]?).map (·.n)).getD 0) (N:=11+os.length) (by omega) (PO:=K.vW 11 os) (by
  intro i o hm
  obtain⟨j,ob,h1,rfl,rfl⟩:=K.abc os 11 i o hm
  have qj:=(aaK.1 h1).1
  have ZT:∀ e:Em,e.N=11+os.length->(∀ j,11<=j->e.b j=((os[j-11]?).map (·.b)).getD 0/\e.d j=0/\e.n j=((os[j-11]?).map (·.n)).getD 0)->K.Fits e 11 os:=by
   intro e he hj
   refine⟨by omega,fun j o ho => ?_⟩
   obtain⟨x,y,z⟩:=hj (11+j) (by omega)
   rw[adG,ho] at x z
   exact⟨x,y,z⟩
  have hex:∃ ow,W.heap[ob.b]? = some ow:=by
   let e0:Em:=⟨fun j=>((os[j-11]?).map (·.b)).getD 0,fun _=>0,fun j=>((os[j-11]?).map (·.n)).getD 0,11+os.length⟩
   obtain⟨ow,h,_⟩:=a2 e0 (ZT e0 rfl fun j _=>⟨rfl,rfl,rfl⟩) j ob h1
   exact⟨ow,h⟩
  obtain⟨ow,WE⟩:=hex
  refine⟨by omega,by omega,a3 ob (aa2 h1),ow,?_,fun e he hj => ?_⟩
  ·rw[adG,h1];exact WE
  ·obtain⟨ow2,h,h2⟩:=a2 e (ZT e he hj) j ob h1
   rw[WE] at h;cases h
   exact h2)
 have I0:K.Fits e 11 os:=by
  refine⟨by omega,fun j o ho => ?_⟩
  obtain⟨x,y,z⟩:=hj (11+j) (by omega)
  rw[adG,ho] at x z
  exact⟨x,y,z⟩
 have agw:K.Has ⟨qY (K.vW 11 os) (pO (zq W) mJ),11+os.length⟩ 11 os:=⟨abe _,fun j o ho=>K.Rz os 11 _ j o ho⟩
 have hT:y9 ⟨qY (K.vW 11 os) (pO (zq W) mJ),11+os.length⟩ mJ:=by
  refine⟨zq W,fun g l hm => ?_⟩
  have hg:g<11:=by
   simp only[mJ,abn,ab7,List.mem_nil_iff,or_false] at hm;rcases hm with⟨rfl,rfl⟩ | ⟨rfl,rfl⟩ | ⟨rfl,rfl⟩ | ⟨rfl,rfl⟩ | ⟨rfl,rfl⟩<;>decide
  show (qY _ _).get g=_
  rw[K.T6 os 11 _ g hg]
  exact K.W3 _ _ (by decide) g l hm
 obtain⟨H',hk⟩:=law _ aY ds (a4 _ agw) hT (Nat.le_add_right _ _)
 refine (K.am6 mixed US W7 amd K.adC hA hk hf hb hR (aY:=vs.toArray) (by simpa using a1 e I0)).mono fun en w' ⟨e',v',h1,_,bJ,hv⟩ => ?_
 have:=hv.so
 subst this
 exact⟨h1,⟨bJ.os,bJ.tape,bJ.output,bJ.size,fun k hk=>(bJ.frame k hk).2⟩⟩
theorem al5 (an:Nat->K.An) {H:Hp} (hT:y9 H mJ) (hn:11<=H.next):K.CK Tryz.prog (K.qQ Tryz.prog) ext aU an (.func (.func 11) [] []) [] H=some (.bool true,H):=by
 refine K.wS (p:=DI mJ 11) (by kernel_rfl) ?_
 unfold DI
 rw[if_pos ⟨rfl,hT,hn⟩]
end Go.Proofs.YtodfajmihkagnaaGreatDoor.mf
namespace Go.Proofs.YtodfajmihkagnaaGreatDoor.DfK
open Go Am Am.K mf
noncomputable section
noncomputable abbrev P:Program:=Tryz.prog
noncomputable def Pt : List (Nat × An) := [
 (88, (.n (.n .nl))),
 (116, (.n (.q (.n (.cd (.n .nl) .nl)) (.s [0, 1, 2, 3] (.n (.cd (.n .nl) .nl)) (.s [0, 1, 2, 3] (.n (.cd .nl .nl)) (.t [0, 1, 2, 3] (.n (.n (.n (.s [0, 9, 10] (.v [0, 9, 10] (.lp [0, 1, 2, 3, 9, 10] (.q (.n (.cd .nl .nl)) (.b (.n (.q (.n (.cd .nl .nl)) (.t [0, 1, 2, 3, 9, 10, 11] (.t [0, 1, 2, 3, 9, 10] .nl)))))))) (.t [9, 10] (.n .nl)))))))))))),
 (150, (.n (.s [0, 1] (.n (.cd (.n .nl) .nl)) (.s [0, 1] (.n (.cd (.n .nl) .nl)) (.n (.v [4] (.lp [0, 1, 5] (.b (.n (.q (.n (.cd (.n .nl) .nl)) (.n .nl))))))))))),
 (151, (.n (.n .nl))),
 (117, (.n (.n .nl))),
 (85, (.n (.s [0, 1] (.n (.b (.n (.cd (.n .nl) (.n (.cd (.n .nl) .nl)))))) (.n (.s [0, 1, 5] (.n (.cd (.s [0, 1, 5] (.t [0, 1, 5, 29] (.cd .nl .nl)) .nl) .nl)) (.s [0, 1, 5] (.n (.v [0, 1, 5] (.lp [0, 1, 5, 39, 40, 41] (.n (.q (.cd .nl .nl) (.s [0, 1, 5, 39, 40, 41] (.b (.n (.s [0, 1, 5, 7, 39, 40, 41] (.t [0, 1, 5, 7, 39, 40, 41, 49] (.cd .nl .nl)) .nl))) .nl)))))) (.n (.n (.n (.s [8] (.n (.v [8] (.lp [1, 8, 63, 64, 65] (.n (.q (.cd .nl .nl) (.s [1, 8, 63, 64, 65] (.b (.n (.n .nl))) .nl)))))) (.n .nl))))))))))),
 (172, (.n (.n (.s [0, 1, 5] (.b (.t [0, 1, 5, 16] (.cd (.n .nl) (.n (.cd (.n .nl) (.t [0, 1, 5, 31] (.cd (.n .nl) (.t [0, 1, 5, 36] (.cd (.n .nl) .nl))))))))) (.n (.n (.n (.t [0, 1, 5, 6, 7, 8, 9] (.n (.s [] (.v [] (.lp [0, 1, 5, 6, 7, 8, 9, 10] (.q (.n (.cd .nl .nl)) (.b (.s [0, 1, 5, 6, 7, 8, 9, 10] (.t [0, 1, 5, 6, 7, 8, 9, 10, 64] (.cd (.t [0, 1, 5, 6, 7, 8, 9, 10, 11] (.q (.n (.cd (.n .nl) .nl)) .nl)) .nl)) (.s [0, 1, 5, 6, 7, 8, 9, 10] (.t [0, 1, 5, 6, 7, 8, 9, 10, 93] (.cd (.n .nl) .nl)) (.n (.n (.t [0, 1, 5, 6, 7, 8, 9, 10, 107] (.cd (.t [8, 12] (.s [] (.n (.cd (.n .nl) .nl)) (.n .nl))) (.t [0, 1, 5, 6, 7, 8, 9, 10, 132] (.cd (.t [8, 13] (.q (.n (.cd (.n .nl) .nl)) (.n .nl))) .nl)))))))))))) (.n .nl))))))))))),
 (186, (.n (.n .nl))),
 (152, (.n (.s [0] (.n (.n (.cd (.n .nl) .nl))) (.n .nl)))),
 (112, (.n (.s [0, 1] (.n (.cd .nl .nl)) (.t [0, 1, 21] (.cd .nl .nl))))),
 (113, (.n (.n (.t [1] (.n .nl))))),
 (114, (.n (.n .nl))),
 (147, (.t [0, 6] (.cd .nl (.t [19] (.cd .nl .nl))))),
 (148, (.t [0, 4] (.t [0, 4] .nl))),
 (84, (.n (.n .nl))),
 (111, (.n (.n .nl))),
 (146, (.n (.s [0, 1] (.n (.cd (.s [0] (.t [0, 17] (.cd (.n .nl) .nl)) (.n (.n (.s [0, 5, 6] (.n (.cd .nl .nl)) (.n (.t [0, 5, 7] (.s [5, 7] (.n (.cd (.n (.n .nl)) .nl)) (.n .nl)))))))) .nl)) (.t [9] (.n .nl))))),
 (164, (.n (.s [0] (.n (.cd (.n .nl) .nl)) (.n .nl)))),
 (165, (.n (.n (.n .nl)))),
 (181, (.n (.n .nl))),
 (183, (.n (.q (.n (.cd (.n .nl) .nl)) (.n .nl)))),
 (104, (.n (.s [] (.n (.v [] (.lp [0, 1, 7, 8] (.n (.q (.cd .nl .nl) (.s [0, 1, 7, 8] (.b (.n (.t [0, 1, 5, 7, 8, 16] (.cd (.n .nl) .nl)))) .nl)))))) (.n .nl)))),
 (94, (.n (.n .nl))),
 (177, (.n (.s [] (.n (.v [] (.lp [0, 3, 7, 8] (.n (.q (.cd .nl .nl) (.s [0, 3, 7, 8] (.b (.n (.t [0, 3, 5, 7, 8, 16] (.cd (.n .nl) .nl)))) .nl)))))) (.n .nl)))),
 (158, (.n (.n .nl))),
 (143, (.n (.n .nl))),
 (163, (.n (.s [] (.n (.v [] (.lp [0, 1, 7, 8] (.n (.q (.cd .nl .nl) (.s [0, 1, 7, 8] (.b (.n (.t [0, 1, 5, 7, 8, 16] (.cd (.n .nl) .nl)))) .nl)))))) (.n .nl)))),
 (174, (.n (.s [] (.n (.v [] (.lp [0, 1, 7, 8] (.n (.q (.cd .nl .nl) (.s [0, 1, 7, 8] (.b (.n (.t [0, 1, 5, 7, 8, 16] (.cd (.n .nl) .nl)))) .nl)))))) (.n .nl)))),
 (154, (.n (.n .nl))),
 (95, (.n (.n .nl))),
 (135, (.n (.s [] (.n (.v [] (.lp [0, 1, 7, 8] (.n (.q (.cd .nl .nl) (.s [0, 1, 7, 8] (.b (.n (.t [0, 1, 5, 7, 8, 16] (.cd (.n .nl) .nl)))) .nl)))))) (.n .nl)))),
 (136, (.n (.q (.n (.cd (.n .nl) .nl)) (.n .nl)))),
 (137, (.n (.q (.n (.cd (.n .nl) .nl)) (.n .nl)))),
 (138, (.n (.q (.n (.cd (.n .nl) .nl)) (.n .nl)))),
 (30, (.n (.q (.n (.cd (.n .nl) .nl)) (.n .nl)))),
 (72, (.n (.s [0, 1] (.t [0, 1, 10] (.cd (.n .nl) .nl)) (.s [] (.n (.v [] (.lp [0, 1, 12, 13] (.n (.q (.cd .nl .nl) (.s [0, 1, 12, 13] (.b (.n (.t [0, 1, 12, 13, 24] (.cd (.n .nl) .nl)))) .nl)))))) (.n .nl))))),
 (73, (.n (.s [0, 1] (.t [0, 1, 10] (.cd (.n .nl) .nl)) (.s [] (.n (.v [] (.lp [0, 1, 12, 13] (.n (.q (.cd .nl .nl) (.s [0, 1, 12, 13] (.b (.n (.t [0, 1, 12, 13, 24] (.cd (.n .nl) .nl)))) .nl)))))) (.n .nl))))),
 (74, (.n (.s [0, 1] (.t [0, 1, 10] (.cd (.n .nl) .nl)) (.s [] (.n (.v [] (.lp [0, 1, 12, 13] (.n (.q (.cd .nl .nl) (.s [0, 1, 12, 13] (.b (.n (.t [0, 1, 12, 13, 24] (.cd (.n .nl) .nl)))) .nl)))))) (.n .nl))))),
 (75, (.n (.s [0, 1, 2] (.t [0, 1, 2, 14] (.cd (.n .nl) .nl)) (.s [] (.n (.v [] (.lp [1, 2, 15, 16, 17] (.n (.q (.cd .nl .nl) (.s [1, 2, 15, 16, 17] (.b (.t [1, 2, 7, 8, 15, 16, 17] (.t [1, 2, 8, 9, 15, 16, 17] (.t [1, 2, 15, 16, 17, 30] (.cd (.n .nl) .nl))))) .nl)))))) (.n .nl))))),
 (155, (.n (.s [1] (.t [1, 13] (.cd (.n .nl) .nl)) (.n (.s [] (.n (.v [] (.lp [1, 3, 16, 17, 18] (.n (.q (.cd .nl .nl) (.s [1, 3, 16, 17, 18] (.b (.n (.s [1, 3, 5, 16, 17, 18] (.t [1, 3, 5, 16, 17, 18, 45] (.cd (.n .nl) .nl)) .nl))) .nl)))))) (.n .nl)))))),
 (175, (.n (.n .nl))),
 (176, (.n (.q (.n (.cd (.n .nl) .nl)) (.n (.s [7] (.n (.v [7] (.lp [1, 2, 7, 14, 15, 16] (.n (.q (.cd .nl .nl) (.s [1, 2, 7, 14, 15, 16] (.v [1, 2, 7, 14, 15, 16] (.n (.t [1, 2, 7, 9, 14, 15, 16, 24] (.cd .nl .nl)))) .nl)))))) (.n (.n .nl))))))),
 (157, (.n (.n .nl))),
 (156, (.n (.n (.n (.s [5] (.n (.v [5] (.lp [2, 5, 6, 7] (.q (.n (.cd .nl .nl)) (.s [2, 5, 6, 7] (.v [2, 5, 6, 7] (.n (.s [2, 5, 7, 8] (.n (.v [2, 5, 7, 8] (.lp [2, 5, 7, 8, 23, 24, 25] (.n (.q (.cd .nl .nl) (.s [2, 5, 7, 8, 23, 24, 25] (.v [2, 5, 7, 8, 23, 24, 25] (.n (.t [2, 5, 7, 8, 23, 24, 25, 31, 32, 33] (.v [2, 5, 7, 8, 23, 24, 25] (.lp [2, 5, 7, 8, 23, 24, 25, 31, 32, 33] (.n (.q (.cd .nl .nl) (.s [2, 5, 7, 8, 23, 24, 25, 31, 32, 33] (.v [2, 5, 7, 8, 23, 24, 25, 31, 32, 33] (.n (.t [2, 5, 7, 8, 12, 23, 24, 25, 31, 32, 33, 41] (.cd (.t [2, 5, 7, 8, 12, 23, 24, 25, 31, 32, 33] .nl) .nl)))) .nl)))))))) .nl)))))) .nl))) .nl))))) (.n .nl)))))),
 (126, (.n (.q (.n (.cd (.n .nl) .nl)) (.n (.s [1, 3, 4] (.n (.v [1, 3, 4] (.lp [1, 3, 4, 15, 16] (.n (.q (.cd .nl .nl) (.s [1, 3, 4, 15, 16] (.v [1, 3, 4, 15, 16] (.n (.t [1, 3, 4, 5, 6, 15, 16] (.t [1, 3, 4, 5, 6, 15, 16, 35] (.cd .nl .nl))))) .nl)))))) (.q (.n (.cd (.n .nl) .nl)) (.n (.s [7] (.n (.v [7] (.lp [1, 3, 7, 8] (.q (.n (.cd .nl .nl)) (.s [1, 3, 7, 8] (.v [1, 3, 7, 8] (.t [1, 3, 7, 8, 56, 57, 58] (.v [1, 3, 7, 8] (.lp [1, 3, 7, 8, 56, 57, 58] (.n (.q (.cd .nl .nl) (.s [1, 3, 7, 8, 56, 57, 58] (.b (.n (.t [1, 3, 7, 8, 10, 56, 57, 58, 74] (.cd (.n .nl) .nl)))) .nl))))))) .nl))))) (.n .nl))))))))),
 (54, (.n (.n .nl))),
 (153, (.n (.s [0] (.n (.cd (.n .nl) .nl)) (.t [0, 4, 5] (.n .nl))))),
 (118, (.n (.t [0, 1, 2, 3, 9, 10] (.s [10] (.n (.v [10] (.n (.cd (.s [] (.n (.v [] (.lp [0, 3, 23, 24, 25] (.n (.q (.cd .nl .nl) (.s [0, 3, 23, 24, 25] (.b (.n (.n (.q (.n (.cd (.n .nl) .nl)) .nl)))) .nl)))))) (.n .nl)) (.n (.cd .nl (.n (.cd .nl (.n (.cd .nl (.n (.cd (.t [2] (.n .nl)) .nl)))))))))))) (.n .nl))))),
 (89, (.n (.t [0, 1, 4, 6] (.n (.s [4, 6] (.n (.v [4, 6] (.lp [1, 4, 6, 7, 20, 21, 22] (.n (.q (.cd .nl .nl) (.s [1, 4, 6, 7, 20, 21, 22] (.b (.n (.t [1, 4, 6, 7, 9, 10, 11, 20, 21, 22] (.n (.s [1, 4, 6, 7, 13, 20, 21, 22] (.t [1, 4, 6, 7, 13, 20, 21, 22, 50] (.cd (.n .nl) .nl)) .nl))))) .nl)))))) (.n .nl)))))),
 (53, (.n (.s [0, 2] (.n (.cd (.n .nl) .nl)) (.n (.n (.s [2, 4, 5] (.n (.v [2, 4, 5] (.lp [2, 4, 5, 20, 21, 22] (.n (.q (.cd .nl .nl) (.s [2, 4, 5, 20, 21, 22] (.b (.n (.n (.t [2, 4, 5, 8, 20, 21, 22] .nl)))) .nl)))))) (.n (.s [2, 9] (.n (.v [2, 9] (.lp [2, 5, 9, 39, 40, 41] (.n (.q (.cd .nl .nl) (.s [2, 5, 9, 39, 40, 41] (.b (.n (.t [2, 5, 9, 12, 13, 39, 40, 41] (.s [2, 5, 9, 12, 39, 40, 41] (.n (.cd (.n .nl) .nl)) .nl)))) .nl)))))) (.s [2, 9] (.n (.n (.cd (.n .nl) .nl))) (.n .nl)))))))))),
 (119, (.n (.n .nl))),
 (125, (.n (.s [] (.n (.v [] (.lp [1, 8, 9, 10] (.n (.q (.cd .nl .nl) (.s [1, 8, 9, 10] (.b (.t [1, 5, 6, 8, 9, 10] (.n (.cd (.n .nl) .nl)))) .nl)))))) (.n .nl)))),
 (90, (.n (.s [1] (.t [1, 10] (.cd (.n .nl) .nl)) (.n (.s [1] (.t [1, 18, 19, 20] (.v [1] (.lp [1, 18, 19, 20] (.n (.q (.cd .nl .nl) (.s [1, 18, 19, 20] (.b (.n (.n (.cd (.n .nl) .nl)))) .nl)))))) (.s [] (.t [35] (.cd (.n .nl) .nl)) (.n .nl))))))),
 (120, (.n (.n .nl))),
 (121, (.n (.t [2, 4, 6] (.n (.n .nl))))),
 (122, (.n (.n .nl))),
 (123, (.n (.n .nl))),
 (124, (.n (.s [] (.n (.v [] (.lp [1, 2, 3, 9, 10, 11] (.n (.q (.cd .nl .nl) (.s [1, 2, 3, 9, 10, 11] (.b (.t [1, 2, 3, 7, 8, 9, 10, 11] (.t [1, 2, 3, 9, 10, 11, 34] (.cd (.n .nl) .nl)))) .nl)))))) (.n .nl)))),
 (55, (.n (.q (.n (.cd (.n .nl) .nl)) (.n (.s [3] (.n (.v [3] (.lp [1, 3, 13, 14, 15] (.n (.q (.cd .nl .nl) (.s [1, 3, 13, 14, 15] (.v [1, 3, 13, 14, 15] (.n (.n (.s [1, 3, 5, 6, 13, 14, 15] (.n (.v [1, 3, 5, 6, 13, 14, 15] (.lp [1, 3, 5, 6, 13, 14, 15, 22, 23, 24] (.n (.q (.cd .nl .nl) (.s [1, 3, 5, 6, 13, 14, 15, 22, 23, 24] (.b (.t [1, 3, 5, 6, 7, 8, 13, 14, 15, 22, 23, 24] (.s [1, 3, 5, 6, 8, 13, 14, 15, 22, 23, 24] (.n (.cd .nl .nl)) .nl))) .nl)))))) (.t [1, 3, 5, 6, 13, 14, 15] (.s [1, 3, 6, 13, 14, 15] (.n (.cd .nl .nl)) .nl)))))) .nl)))))) (.n .nl)))))),
 (92, (.n (.q (.n (.cd (.n .nl) .nl)) (.n .nl)))),
 (127, (.n (.t [1, 2, 3] (.s [2, 3] (.n (.v [2, 3] (.lp [1, 2, 3, 14, 15, 16] (.n (.q (.cd .nl .nl) (.s [1, 2, 3, 14, 15, 16] (.v [1, 2, 3, 14, 15, 16] (.t [1, 2, 3, 4, 5, 14, 15, 16] (.n (.v [1, 2, 3, 14, 15, 16] (.lp [1, 2, 3, 4, 14, 15, 16, 22, 23, 24] (.n (.q (.cd .nl .nl) (.s [1, 2, 3, 4, 14, 15, 16, 22, 23, 24] (.v [1, 2, 3, 4, 14, 15, 16, 22, 23, 24] (.n (.t [1, 2, 3, 4, 7, 8, 14, 15, 16, 22, 23, 24] (.t [1, 2, 3, 4, 8, 14, 15, 16, 22, 23, 24, 48] (.cd .nl .nl))))) .nl)))))))) .nl)))))) (.n .nl))))),
 (76, (.n (.s [1, 2] (.n (.n (.cd (.n .nl) .nl))) (.t [2, 5] (.n (.n .nl)))))),
 (97, (.n (.t [1, 2] (.s [1, 2] (.t [1, 2, 13, 14, 15] (.v [1, 2] (.lp [1, 2, 13, 14, 15] (.n (.q (.cd .nl .nl) (.s [1, 2, 13, 14, 15] (.b (.t [1, 2, 3, 4, 13, 14, 15] .nl)) .nl)))))) (.t [1, 2] (.t [1, 2] (.n .nl))))))),
 (106, (.n (.n (.s [1, 2] (.t [1, 2, 10, 11, 12] (.v [1, 2] (.lp [1, 2, 10, 11, 12] (.n (.q (.cd .nl .nl) (.s [1, 2, 10, 11, 12] (.b (.t [1, 2, 3, 4, 10, 11, 12] (.t [1, 2, 3, 4, 5, 10, 11, 12] (.s [1, 2, 3, 10, 11, 12] (.t [1, 2, 3, 10, 11, 12, 47] (.cd .nl .nl)) .nl)))) .nl)))))) (.n (.cd .nl .nl)))))),
 (144, (.n (.n .nl))),
 (108, (.n (.s [] (.b (.t [2, 5] (.cd (.n .nl) (.n (.cd (.n .nl) .nl))))) (.n .nl)))),
 (109, (.n (.s [1, 2, 3] (.n (.n (.cd (.n .nl) .nl))) (.s [] (.t [2, 8] (.t [28] (.cd (.n .nl) .nl))) (.n .nl))))),
 (78, (.n (.s [1, 2, 3, 4, 8] (.n (.n (.cd (.n .nl) .nl))) (.t [1, 2, 3, 4, 8, 11] (.s [1, 2, 3, 4, 8, 11] (.b (.n (.cd (.n .nl) (.t [1, 2, 3, 4, 8, 11, 29] (.cd (.n .nl) .nl))))) (.n (.t [1, 4, 8, 11] (.t [4, 8] (.n .nl))))))))),
 (79, (.n (.s [1, 2, 3, 4, 8] (.t [1, 2, 3, 4, 8, 10] (.n (.cd (.n .nl) .nl))) (.n (.t [4, 8] (.n (.n .nl))))))),
 (107, (.t [0, 2, 6, 7] (.s [0, 6] (.t [0, 2, 6, 7, 28] (.cd (.n .nl) .nl)) (.t [0] .nl)))),
 (80, (.n (.s [1, 3, 4, 8] (.t [1, 3, 4, 8, 10] (.n (.cd (.n .nl) .nl))) (.n (.n (.n .nl)))))),
 (77, (.n (.n (.s [2, 4] (.n (.v [2, 4] (.lp [1, 2, 4, 11, 12] (.n (.q (.cd .nl .nl) (.s [1, 2, 4, 11, 12] (.v [1, 2, 4, 11, 12] (.n (.t [1, 2, 4, 5, 6, 11, 12] (.v [1, 2, 4, 11, 12] (.t [1, 2, 4, 5, 6, 11, 12, 19] (.cd .nl (.t [1, 2, 4, 5, 6, 11, 12, 31] (.cd .nl (.t [1, 2, 4, 6, 11, 12, 40] (.cd .nl .nl)))))))))) .nl)))))) (.n .nl))))),
 (81, (.n (.s [2, 3, 4] (.b (.n (.cd (.n .nl) (.t [2, 3, 4, 11] (.cd (.n .nl) (.t [2, 3, 4, 17] (.cd (.n .nl) .nl))))))) (.n (.t [2, 4] (.n (.n .nl))))))),
 (110, (.n (.n .nl))),
 (36, (.n (.n (.n .nl)))),
 (71, (.n (.n .nl))),
 (145, (.n (.s [0, 1] (.t [0, 1, 12] (.cd (.n .nl) .nl)) (.n (.s [5] (.n (.v [5] (.lp [1, 5, 6] (.s [1, 5, 6] (.t [1, 5, 6, 21] (.cd .nl .nl)) (.q (.b .nl) .nl))))) (.n .nl)))))),
 (50, (.n (.n .nl))),
 (86, (.n (.n .nl))),
 (115, (.n (.s [] (.n (.v [] (.lp [1, 2, 10] (.n (.q (.cd .nl .nl) (.b (.n (.t [1, 2, 7, 10, 19] (.cd (.n .nl) .nl))))))))) (.n .nl)))),
 (48, (.n (.s [] (.n (.b (.n (.cd (.n .nl) (.n (.cd (.n .nl) (.s [3, 8] (.n (.cd .nl .nl)) (.cd (.n .nl) (.n (.cd (.n .nl) (.s [3, 13] (.n (.cd .nl .nl)) (.cd (.n .nl) (.n (.cd (.n .nl) (.n (.cd (.n .nl) .nl)))))))))))))))) (.n .nl)))),
 (87, (.n (.n .nl))),
 (52, (.n (.s [2] (.n (.b (.n (.cd (.n .nl) (.n (.cd (.n .nl) (.n (.cd (.n .nl) (.n (.cd (.n (.s [2, 5] (.n (.cd .nl .nl)) (.n .nl))) (.n (.cd (.n .nl) (.n (.cd (.n .nl) .nl)))))))))))))) (.s [2] (.n (.cd (.n .nl) .nl)) (.n .nl))))),
 (49, (.n (.t [1, 2, 4, 5] (.s [4, 5] (.n (.v [4, 5] (.lp [2, 4, 5, 12] (.n (.q (.cd .nl .nl) (.v [2, 4, 5, 12] (.n (.n (.v [2, 4, 5, 12] (.n (.cd .nl (.n (.cd .nl (.n (.cd .nl (.n (.cd .nl (.n (.cd .nl (.n (.cd .nl (.n (.cd .nl .nl))))))))))))))))))))))) (.n .nl))))),
 (21, (.n (.n (.n .nl)))),
 (51, (.n (.n .nl))),
 (44, (.n (.n .nl))),
 (33, (.n (.s [0, 2, 4] (.t [0, 2, 4, 8, 9] (.n (.cd (.n .nl) .nl))) (.s [0, 2, 4] (.t [0, 2, 4, 30] (.cd (.t [0, 2, 4] .nl) .nl)) (.t [0, 2, 4] (.t [2] (.n .nl))))))),
 (83, (.n (.t [6, 7] (.n .nl)))),
 (32, (.n (.n (.s [3] (.t [0, 3, 9, 10, 11] (.v [3] (.lp [0, 3, 9, 10, 11] (.n (.q (.cd .nl .nl) (.s [0, 3, 9, 10, 11] (.b (.n .nl)) .nl)))))) (.n .nl))))),
 (82, (.n (.s [1, 2] (.n (.cd (.n .nl) .nl)) (.n (.n (.n .nl)))))),
 (18, (.n (.n .nl))),
 (16, (.n (.q (.n (.cd (.n .nl) .nl)) (.s [0, 3] (.n (.b (.n (.cd (.n .nl) (.n (.cd (.n .nl) (.n (.cd (.n .nl) (.n (.cd (.n .nl) .nl)))))))))) (.s [0, 3] (.t [0, 3, 38] (.cd (.n .nl) .nl)) (.n .nl)))))),
 (40, (.n (.s [0, 1, 2] (.t [0, 1, 2, 8] (.n (.cd (.n .nl) .nl))) (.t [0, 1, 9, 10] (.q (.n (.cd (.n .nl) .nl)) (.s [0, 1, 9] (.t [0, 1, 9, 34] (.cd (.n .nl) .nl)) (.t [0, 1, 9] (.t [] (.n .nl))))))))),
 (41, (.n (.t [0, 3, 5, 6] (.t [0, 3, 5, 6, 8] (.s [0, 3, 5] (.b (.n (.cd (.n .nl) (.t [0, 3, 5, 30] (.cd (.n .nl) (.t [0, 3, 5, 37] (.cd (.n .nl) (.t [0, 3, 5, 44] (.cd (.n .nl) .nl))))))))) (.t [0, 3, 9, 10] (.q (.n (.cd (.n .nl) .nl)) (.t [0, 3] (.s [] (.n (.cd .nl .nl)) (.n .nl)))))))))),
 (42, (.n (.s [0, 1] (.t [0, 1, 11] (.cd (.n .nl) .nl)) (.t [0, 1] (.s [] (.t [0, 1, 20, 21] (.v [] (.lp [0, 1, 20, 21] (.n (.q (.cd .nl .nl) (.s [0, 1, 20, 21] (.b (.n .nl)) .nl)))))) (.n .nl)))))),
 (43, (.n (.t [0, 3, 5] (.n (.n (.s [5, 6, 7] (.n (.v [5, 6, 7] (.n (.cd .nl (.n (.cd .nl (.n (.cd .nl (.n (.cd .nl .nl)))))))))) (.s [7] (.n (.cd .nl .nl)) (.n .nl)))))))),
 (56, (.n (.t [4, 6, 7] (.s [4, 6] (.n (.cd (.n .nl) .nl)) (.t [4, 8] (.n .nl)))))),
 (45, (.n (.n .nl))),
 (15, (.n (.n (.n (.n .nl))))),
 (34, (.n (.n .nl))),
 (35, (.n (.n .nl))),
 (13, (.n (.n (.s [3] (.n (.v [3] (.lp [3, 7, 8, 9] (.n (.q (.cd .nl .nl) (.s [3, 7, 8, 9] (.b (.n .nl)) .nl)))))) (.n .nl))))),
 (37, (.n (.s [0, 1, 2] (.t [0, 1, 2, 14] (.cd (.n .nl) .nl)) (.s [] (.n (.v [] (.lp [1, 2, 15, 16, 17] (.n (.q (.cd .nl .nl) (.s [1, 2, 15, 16, 17] (.b (.t [1, 2, 7, 8, 15, 16, 17] (.t [1, 2, 8, 9, 15, 16, 17] (.t [1, 2, 15, 16, 17, 30] (.cd (.n .nl) .nl))))) .nl)))))) (.n .nl))))),
 (38, (.n (.s [0, 1, 2] (.t [0, 1, 2, 14] (.cd (.n .nl) .nl)) (.s [] (.n (.v [] (.lp [1, 2, 15, 16, 17] (.n (.q (.cd .nl .nl) (.s [1, 2, 15, 16, 17] (.b (.t [1, 2, 7, 8, 15, 16, 17] (.t [1, 2, 8, 9, 15, 16, 17] (.t [1, 2, 15, 16, 17, 30] (.cd (.n .nl) .nl))))) .nl)))))) (.n .nl))))),
 (39, (.n (.s [0, 1] (.t [0, 1, 10] (.cd (.n .nl) .nl)) (.s [] (.n (.v [] (.lp [0, 1, 12, 13] (.n (.q (.cd .nl .nl) (.s [0, 1, 12, 13] (.b (.n (.t [0, 1, 12, 13, 24] (.cd (.n .nl) .nl)))) .nl)))))) (.n .nl))))),
 (31, (.n (.q (.n (.cd (.n .nl) .nl)) (.n .nl)))),
 (12, (.n (.n .nl))),
 (14, (.n (.n (.t [0, 3] (.t [0, 3] (.s [0, 3] (.pr [0, 3] (MD 2 3 0)) (.t [0, 3] (.s [3] (.t [3, 52, 53, 54] (.v [3] (.lp [3, 52, 53, 54] (.n (.q (.cd .nl .nl) (.s [3, 52, 53, 54] (.b (.n .nl)) .nl)))))) (.n .nl))))))))),
 (3, (.n (.q (.n (.cd (.n .nl) .nl)) (.s [0, 1] (.t [0, 1, 19] (.cd (.n .nl) .nl)) (.s [0, 1] (.n (.v [0, 1] (.lp [0, 1, 5] (.q (.n (.cd .nl .nl)) (.s [0, 1, 5] (.b (.t [0, 1, 5, 30] (.cd (.n .nl) .nl))) .nl))))) (.t [1, 6, 7] (.n (.s [1, 6, 7, 8] (.t [1, 6, 7, 8, 44] (.cd (.n .nl) .nl)) (.s [6, 7] (.n (.v [6, 7] (.lp [1, 6, 7, 8, 9] (.q (.n (.cd .nl .nl)) (.s [1, 6, 7, 8, 9] (.b (.s [1, 6, 7, 8, 9] (.t [1, 6, 7, 8, 9, 55] (.cd (.n .nl) .nl)) .nl)) .nl))))) (.n .nl)))))))))),
 (0, .nl)]
noncomputable def an (g:Nat):An:=Jb Pt g
noncomputable abbrev cK:CF:=CK P (qQ P) ext aU an
noncomputable def Sa (J:JT) (G:GT) (cf:CF) (a0 a1:AV) (H:Hp):R:=
 B2 (cf (.func (.func 116) [] []) [a0,a1,(.int .i64 0),(.int .i64 (-1))] H) fun v0 h1=>
 some (v0,h1)
theorem acB {a0 a1:AV} {H:Hp} {r:AV × Hp} (h:Sa JN GO cK a0 a1 H=some r):cK (.func (.func 88) [] []) [a0,a1] H=some r:=aT (first:=[]) (cap:=[]) (aa0 (by kernel_rfl) h)
noncomputable def Kb (J:JT) (G:GT) (cf:CF) (kN:K.Fn 3) (dI:K.Fn 6) (bQ bT bV dm dd dS:AV) (ez:Hp):R:=
 B1 (cJ dS dm) fun iS=>
 CD iS (
 B2 (cf (.func (.func 151) [] []) [bQ,bT] ez) fun v44 jX=>
 B1 (cJ v44 (.int .i64 0)) fun v46=>
 CD v46 (
 kN bQ dd dS jX) (
 J 7 (fun xv=>
 B1 (bW v44 bV) fun gk=>
 B1 (np bQ none (some gk)) fun v49=>
 B1 (ia 1 dd dS) fun jw=>
 B1 (st 1 jw v49 jX) fun mV=>
 xv bQ bT bV dm dd dS v44 mV) (fun fO ji ie fH df dD dJ wo=>
 J 6 (fun OK=>
 B1 (lens ji) fun nX=>
 B1 (bW dJ nX) fun jd=>
 B1 (np fO (some jd) none) fun v63=>
 OK v63 ji ie fH df dD wo) (fun fL fY qE jI jY lG wk=>
 B1 (bW lG (.int .i64 1)) fun ng=>
 dI fL fY qE jI jY ng wk)))) (
 kN bQ dd dS ez)
noncomputable def EH (J:JT) (G:GT) (cf:CF) (kN:K.Fn 3):K.Fn 6:=dT P an J G cf 116 [1,1,1,1,1,1,1,1,0,0,0] [0,1,2,3,9,10] (fun q t H=>match Nat.beq q 0 with | true=>app 3 kN (ax [0,9,10] t) H | false=>(fun _ _ _=>none) q t H)
theorem anh (J:JT) (G:GT) (cf:CF) (kN:K.Fn 3) (dI:K.Fn 6) (bQ bT bV dm dd dS:AV) (ez:Hp):kT P an J G cf 116 [1,1,1,1,1,1,1,1,0,0,0] [0,1,2,3,9,10] (fun q t H=>match Nat.beq q 0 with | true=>app 3 kN (ax [0,9,10] t) H | false=>(fun _ _ _=>none) q t H) dI [bQ,bT,bV,dm,dd,dS] ez=Kb J G cf kN dI bQ bT bV dm dd dS ez:=by kernel_rfl
theorem Y2 (cf:CF) (kN:K.Fn 3) (bQ bT bV dm dd dS:AV) (ez:Hp):EH JN GO cf kN bQ bT bV dm dd dS ez=Kb JN GO cf kN (EH JN GO cf kN) bQ bT bV dm dd dS ez:=aa0 (b:=app 6 (EH JN GO cf kN) [bQ,bT,bV,dm,dd,dS] ez) (by kernel_rfl) ((ey cf _ _ _ _ [bQ,bT,bV,dm,dd,dS] rfl ez).trans (anh JN GO cf kN _ bQ bT bV dm dd dS ez))
noncomputable def Nl (J:JT) (G:GT) (cf:CF) (a0 a1 a2 a3:AV) (H:Hp):R:=
 B1 (bZ a3 (.int .i64 0)) fun v0=>
 CD v0 (
 some (.ah,H)) (
 J 4 (fun j1=>
 B1 (seq a1 (.str [])) fun v2=>
 CD v2 (
 B2 (cf (.func (.func 149) [] []) [a0,a3] H) fun v3 h4=>
 some (v3,h4)) (
 j1 a0 a1 a2 a3 H)) (fun x5 x6 x7 x8 h9=>
 J 4 (fun aX=>
 B1 (cJ x8 (.int .i64 0)) fun v11=>
 CD v11 (
 B2 (cf (.func (.func 150) [] []) [x5,x6] h9) fun v12 eZ=>
 B1 (bW v12 (.int .i64 1)) fun cL=>
 aX x5 x6 x7 cL eZ) (
 aX x5 x6 x7 x8 h9)) (fun bw aZ bh aF dC=>
 J 4 (fun aG=>
 B1 (lens bw) fun v21=>
 B1 (bW v21 (.int .i64 1)) fun v22=>
 B2 (gI P .min #[3,3] [aF,v22] dC) fun v23 iZ=>
 aG bw aZ bh v23 iZ) (fun bP cO cB dY dL=>
 B2 (xc [(.str [])] 9 1 dY dY dL) fun v30 gz=>
 B1 (nG dY (.int .i64 1)) fun v32=>
 J 3 (fun G5=>
 J 3 (fun kN=>
 EH J G cf kN bP cO cB v32 v30 (.int .i64 0) gz) (fun uh iF iM oJ=>
 G5 uh iF iM oJ)) (fun gM ft ff hZ=>
 J 2 (fun j80=>
 B1 (ia 1 ft ff) fun rW=>
 B1 (st 1 rW gM hZ) fun sM=>
 j80 ft ff sM) (fun mT pC pK=>
 B1 (bW pC (.int .i64 1)) fun wB=>
 B1 (pM 1 mT none (some wB) none) fun v87=>
 some (v87,pK)))))))
theorem agI (J:JT) (G:GT) (cf:CF) (a0 a1 a2 a3:AV) (H:Hp):fG P J G aU an cf 116 [a0,a1,a2,a3] H=Nl J G cf a0 a1 a2 a3 H:=by kernel_rfl
theorem alc {a0 a1 a2 a3:AV} {H:Hp} {r:AV × Hp} (h:Nl JN GO cK a0 a1 a2 a3 H=some r):cK (.func (.func 116) [] []) [a0,a1,a2,a3] H=some r:=aT (first:=[]) (cap:=[]) ((agI JN GO _ a0 a1 a2 a3 H).trans h)
noncomputable def ah3 (J:JT) (G:GT) (cf:CF) (AA:K.Fn 1):K.Fn 3:=dT P an J G cf 150 [1,1,1,1,0,0] [0,1,5] (fun q t H=>match Nat.beq q 0 with | true=>app 1 AA (ax [4] t) H | false=>(fun _ _ _=>none) q t H)
noncomputable def UF (J:JT) (G:GT) (cf:CF) (a0 a1:AV) (H:Hp):R:=
 J 2 (fun j0=>
 B1 (lens a1) fun v1=>
 B1 (bZ v1 (.int .i64 0)) fun v2=>
 CD v2 (
 B2 (cf (.func (.func 170) [] []) [a0] H) fun v3 h4=>
 B1 (bW v3 (.int .i64 1)) fun v5=>
 some (v5,h4)) (
 j0 a0 a1 H)) (fun x6 x7 h8=>
 J 2 (fun j9=>
 B1 (lens x7) fun v10=>
 B1 (bZ v10 (.int .i64 1)) fun v11=>
 CD v11 (
 B1 (uS x7 (.int .i64 0)) fun v12=>
 B2 (cf (.func (.func 171) [] []) [x6,v12] h8) fun dN jL=>
 some (dN,jL)) (
 j9 x6 x7 h8)) (fun bw aZ dQ=>
 J 1 (fun AA=>
 ah3 J G cf AA bw aZ (.int .i64 0) dQ) (fun bO cU=>
 some (bO,cU))))
theorem agU {a0 a1:AV} {H:Hp} {r:AV × Hp} (h:UF JN GO cK a0 a1 H=some r):cK (.func (.func 150) [] []) [a0,a1] H=some r:=aT (first:=[]) (cap:=[]) (aa0 (by kernel_rfl) h)
noncomputable def RC (J:JT) (G:GT) (cf:CF) (a0 a1:AV) (H:Hp):R:=
 B2 (cf (.func (.func 172) [] []) [a0,a1] H) fun v0 h1=>
 some (v0,h1)
theorem alQ {a0 a1:AV} {H:Hp} {r:AV × Hp} (h:RC JN GO cK a0 a1 H=some r):cK (.func (.func 151) [] []) [a0,a1] H=some r:=aT (first:=[]) (cap:=[]) (aa0 (by kernel_rfl) h)
noncomputable def Xe (J:JT) (G:GT) (cf:CF) (a0 a1:AV) (H:Hp):R:=
 B2 (cf (.func (.func 152) [] []) [a0,a1] H) fun v0 h1=>
 B1 (ex 0 v0) fun v2=>
 B1 (ex 1 v0) fun v3=>
 B1 (ex 2 v0) fun v4=>
 some (.tuple [v2,v3,v4],h1)
theorem ait {a0 a1:AV} {H:Hp} {r:AV × Hp} (h:Xe JN GO cK a0 a1 H=some r):cK (.func (.func 117) [] []) [a0,a1] H=some r:=aT (first:=[]) (cap:=[]) (aa0 (by kernel_rfl) h)
noncomputable def KU (J:JT) (G:GT) (cf:CF) (pt:K.Fn 3) (qD:K.Fn 6) (dS eK dX gD fq fK:AV) (kB:Hp):R:=
 B1 (cJ fK fq) fun gk=>
 CD gk (
 J 6 (fun j49=>
 B1 (ia 1 gD fK) fun jw=>
 B1 (ld jw kB) fun v51=>
 J 7 (fun j52=>
 J 8 (fun Qh=>
 B1 (lens v51) fun iA=>
 B1 (nG (.int .i64 9223372036854775807) dX) fun hU=>
 B1 (lQ iA hU) fun mb=>
 Qh dS eK dX v51 gD fq fK mb kB) (fun dD dJ db eD dV iX gx fL lM=>
 CD fL (
 none) (
 j52 dD dJ db eD dV iX gx lM))) (fun qE jI jY lG kV pT uh Bj=>
 B1 (lens lG) fun jq=>
 B1 (bW jY jq) fun v75=>
 j49 qE jI v75 kV pT uh Bj)) (fun gM ft ff pn nK rf sM=>
 B1 (bW rf (.int .i64 1)) fun oC=>
 qD gM ft ff pn nK oC sM)) (
 pt dS eK dX kB)
noncomputable def DY (J:JT) (G:GT) (cf:CF) (pt:K.Fn 3):K.Fn 6:=dT P an J G cf 85 [1,1,1,1,0,1,0,0] [0,1,5,39,40,41] (fun q t H=>match Nat.beq q 1 with | true=>app 3 pt (ax [0,1,5] t) H | false=>(fun _ _ _=>none) q t H)
theorem adZ (J:JT) (G:GT) (cf:CF) (pt:K.Fn 3) (qD:K.Fn 6) (dS eK dX gD fq fK:AV) (kB:Hp):kT P an J G cf 85 [1,1,1,1,0,1,0,0] [0,1,5,39,40,41] (fun q t H=>match Nat.beq q 1 with | true=>app 3 pt (ax [0,1,5] t) H | false=>(fun _ _ _=>none) q t H) qD [dS,eK,dX,gD,fq,fK] kB=KU J G cf pt qD dS eK dX gD fq fK kB:=by kernel_rfl
theorem Xw (cf:CF) (pt:K.Fn 3) (dS eK dX gD fq fK:AV) (kB:Hp):DY JN GO cf pt dS eK dX gD fq fK kB=KU JN GO cf pt (DY JN GO cf pt) dS eK dX gD fq fK kB:=aa0 (b:=app 6 (DY JN GO cf pt) [dS,eK,dX,gD,fq,fK] kB) (by kernel_rfl) ((ey cf _ _ _ _ [dS,eK,dX,gD,fq,fK] rfl kB).trans (adZ JN GO cf pt _ dS eK dX gD fq fK kB))
noncomputable def L6 (J:JT) (G:GT) (cf:CF) (wh:K.Fn 1) (an9:K.Fn 5) (nE rM nf mG jZ:AV) (pI:Hp):R:=
 B1 (cJ jZ mG) fun Bo=>
 CD Bo (
 J 5 (fun afM=>
 B1 (ia 1 nf jZ) fun vM=>
 B1 (ld vM pI) fun rN=>
 B2 (cf (.func (.func 113) [] []) [rM,nE] pI) fun u7 AH=>
 B2 (cf (.func (.func 113) [] []) [rM,rN] AH) fun v117 Hs=>
 afM nE rM nf mG jZ Hs) (fun uz su rP uN wD xf=>
 B1 (bW wD (.int .i64 1)) fun yI=>
 an9 uz su rP uN yI xf)) (
 wh rM pI)
noncomputable def Fb (J:JT) (G:GT) (cf:CF) (wh:K.Fn 1):K.Fn 5:=dT P an J G cf 85 [1,1,1,1,1,1,1,1,0,1,0,0] [1,8,63,64,65] (fun q t H=>match Nat.beq q 3 with | true=>app 1 wh (ax [8] t) H | false=>(fun _ _ _=>none) q t H)
theorem Vt (cf:CF) (wh:K.Fn 1) (nE rM nf mG jZ:AV) (pI:Hp):Fb JN GO cf wh nE rM nf mG jZ pI=L6 JN GO cf wh (Fb JN GO cf wh) nE rM nf mG jZ pI:=aa0 (b:=app 5 (Fb JN GO cf wh) [nE,rM,nf,mG,jZ] pI) (by kernel_rfl) ((ey cf 85 [1,1,1,1,1,1,1,1,0,1,0,0] [1,8,63,64,65] _ [nE,rM,nf,mG,jZ] rfl pI).trans (by kernel_rfl))
noncomputable def Gz (J:JT) (G:GT) (cf:CF) (a0 a1:AV) (H:Hp):R:=
 J 2 (fun j0=>
 B1 (aV a0) fun v1=>
 B1 (bZ v1 (.int .i64 0)) fun v2=>
 CD v2 (
 some ((.str []),H)) (
 B1 (bZ v1 (.int .i64 1)) fun v3=>
 CD v3 (
 B1 (ia 1 a0 (.int .i64 0)) fun v4=>
 B1 (ld v4 H) fun v5=>
 some (v5,H)) (
 j0 a0 a1 H))) (fun x6 x7 h8=>
 J 3 (fun j9=>
 B1 (lens x7) fun v10=>
 B1 (lQ v10 (.int .i64 0)) fun v11=>
 CD v11 (
 J 3 (fun cg=>
 J 4 (fun eU=>
 B1 (lens x7) fun cL=>
 B1 (aV x6) fun ei=>
 B1 (nG ei (.int .i64 1)) fun dH=>
 B1 (AE (.int .i64 9223372036854775807) dH) fun fx=>
 B1 (lY cL fx) fun dA=>
 eU x6 x7 (.int .i64 0) dA h8) (fun aM bB aI aE br=>
 CD aE (
 none) (
 cg aM bB aI br))) (fun bI bP cO eP=>
 B1 (lens bP) fun v28=>
 B1 (aV bI) fun v29=>
 B1 (nG v29 (.int .i64 1)) fun v30=>
 B1 (vb v28 v30) fun v31=>
 B1 (bW cO v31) fun v32=>
 j9 bI bP v32 eP)) (
 j9 x6 x7 (.int .i64 0) h8)) (fun cH dc dh mI=>
 J 3 (fun GB=>
 B1 (aV cH) fun lf=>
 J 3 (fun pt=>
 DY J G cf pt cH dc dh cH lf (.int .i64 0) mI) (fun pC pH pF wW=>
 GB pC pH pF wW)) (fun nj yd Gv yi=>
 BN (aL yi [.fB,.ah] 180 0) fun i92 h93=>
 B2 (cf (.func (.func 112) [] []) [(.ptr i92 0),Gv] h93) fun xY qo=>
 B1 (ia 1 nj (.int .i64 0)) fun py=>
 B1 (ld py qo) fun Gy=>
 B2 (cf (.func (.func 113) [] []) [(.ptr i92 0),Gy] qo) fun KP DX=>
 J 1 (fun QP=>
 B1 (pM 1 nj (some (.int .i64 1)) none none) fun wI=>
 B1 (aV wI) fun xW=>
 J 1 (fun wh=>
 Fb J G cf wh yd (.ptr i92 0) wI xW (.int .i64 0) DX) (fun ja MN=>
 QP ja MN)) (fun jD NZ=>
 B2 (cf (.func (.func 114) [] []) [jD] NZ) fun v130 Cd=>
 some (v130,Cd)))))
theorem ab1 (J:JT) (G:GT) (cf:CF) (a0 a1:AV) (H:Hp):fG P J G aU an cf 85 [a0,a1] H=Gz J G cf a0 a1 H:=by kernel_rfl
theorem LV {a0 a1:AV} {H:Hp} {r:AV × Hp} (h:Gz JN GO cK a0 a1 H=some r):cK (.func (.func 85) [] []) [a0,a1] H=some r:=aT (first:=[]) (cap:=[]) ((ab1 JN GO _ a0 a1 H).trans h)
noncomputable def afa (J:JT) (G:GT) (cf:CF) (Rp:K.Fn 0):K.Fn 8:=dT P an J G cf 172 [1,1,1,1,1,1,1,1,0,0,0] [0,1,5,6,7,8,9,10] (fun q t H=>match Nat.beq q 1 with | true=>app 0 Rp (ax [] t) H | false=>(fun _ _ _=>none) q t H)
noncomputable def MH (J:JT) (G:GT) (cf:CF) (a0 a1:AV) (H:Hp):R:=
 B1 (lens a1) fun v0=>
 J 3 (fun j1=>
 J 4 (fun j2=>
 B1 (bZ v0 (.int .i64 0)) fun v3=>
 G v3 false (fun k4=>
 k4 a1 H) (fun v5 h6=>
 G v3 false (fun k7=>
 k7 a0 h6) (fun v8 h9=>
 G v3 false (fun uw=>
 B1 (seq v5 v8) fun v11=>
 uw v11 h9) (fun v12 eZ=>
 B1 (pk v3 (.bool true) v12) fun cL=>
 j2 a0 a1 v0 cL eZ) h9) h6) H) (fun bw aZ bh aF dC=>
 CD aF (
 some ((.int .i64 0),dC)) (
 B1 (bZ bh (.int .i64 1)) fun v20=>
 CD v20 (
 B1 (uS aZ (.int .i64 0)) fun v21=>
 B2 (cf (.func (.func 186) [] []) [bw,v21] dC) fun v22 br=>
 some (v22,br)) (
 J 4 (fun DQ=>
 B1 (lens bw) fun v25=>
 B1 (lY bh v25) fun v26=>
 DQ bw aZ bh v26 dC) (fun cB dY cP bY gz=>
 CD bY (
 some ((.int .i64 (-1)),gz)) (
 J 4 (fun gw=>
 B1 (ld (.ptr 1 0) gz) fun eO=>
 B1 (oN cP eO) fun eA=>
 G eA true (fun rT=>
 rT cB gz) (fun v36 iB=>
 G eA true (fun xB=>
 B1 (lens v36) fun eQ=>
 xB eQ iB) (fun v40 fP=>
 G eA true (fun k42=>
 B1 (oN v40 (.int .i64 64)) fun iS=>
 k42 iS fP) (fun v44 jX=>
 B1 (pk eA v44 (.bool false)) fun v46=>
 gw cB dY cP v46 jX) fP) iB) gz) (fun gO gZ jz kH mV=>
 CD kH (
 B2 (cf (.func (.func 187) [] []) [gO,gZ] mV) fun gi fE=>
 some (gi,fE)) (
 j1 gO gZ jz mV)))))))) (fun ie fH df nB=>
 B1 (uS fH (.int .i64 0)) fun kL=>
 B1 (uS fH (.int .i64 1)) fun v59=>
 J 7 (fun OK=>
 B1 (lens ie) fun nX=>
 B1 (nG nX df) fun jd=>
 B1 (bW jd (.int .i64 1)) fun v63=>
 OK ie fH df kL v59 (.int .i64 0) v63 nB) (fun fL fY qE jI jY lG kV mc=>
 J 0 (fun tJ=>
 J 0 (fun Rp=>
 afa J G cf Rp fL fY qE jI jY lG kV (.int .i64 0) mc) (fun  ajn=>
 tJ  ajn)) (fun  agG=>
 some ((.int .i64 (-1)),agG))))
theorem aeQ (J:JT) (G:GT) (cf:CF) (a0 a1:AV) (H:Hp):fG P J G aU an cf 172 [a0,a1] H=MH J G cf a0 a1 H:=by kernel_rfl
theorem ae6 {a0 a1:AV} {H:Hp} {r:AV × Hp} (h:MH JN GO cK a0 a1 H=some r):cK (.func (.func 172) [] []) [a0,a1] H=some r:=aT (first:=[]) (cap:=[]) ((aeQ JN GO _ a0 a1 H).trans h)
noncomputable def WM (J:JT) (G:GT) (cf:CF) (a0 a1:AV) (H:Hp):R:=
 B2 (cf (.func (.func 197) [] []) [a0,a1] H) fun v0 h1=>
 some (v0,h1)
theorem ahP {a0 a1:AV} {H:Hp} {r:AV × Hp} (h:WM JN GO cK a0 a1 H=some r):cK (.func (.func 186) [] []) [a0,a1] H=some r:=aT (first:=[]) (cap:=[]) (aa0 (by kernel_rfl) h)
noncomputable def YD (J:JT) (G:GT) (cf:CF) (a0 a1:AV) (H:Hp):R:=
 J 1 (fun j0=>
 B2 (cf (.func (.func 172) [] []) [a0,a1] H) fun v1 h2=>
 B1 (lY v1 (.int .i64 0)) fun v3=>
 CD v3 (
 B1 (np a0 none (some v1)) fun v4=>
 B1 (lens a1) fun v5=>
 B1 (bW v1 v5) fun v6=>
 B1 (np a0 (some v6) none) fun v7=>
 some (.tuple [v4,v7,(.bool true)],h2)) (
 j0 a0 h2)) (fun x8 h9=>
 some (.tuple [x8,(.str []),(.bool false)],h9))
theorem aiL {a0 a1:AV} {H:Hp} {r:AV × Hp} (h:YD JN GO cK a0 a1 H=some r):cK (.func (.func 152) [] []) [a0,a1] H=some r:=aT (first:=[]) (cap:=[]) (aa0 (by kernel_rfl) h)
noncomputable def RX (J:JT) (G:GT) (cf:CF) (a0 a1:AV) (H:Hp):R:=
 B2 (cf (.func (.func 147) [] []) [a0] H) fun v0 h1=>
 J 2 (fun j2=>
 B1 (cJ a1 (.int .i64 0)) fun v3=>
 CD v3 (
 none) (
 j2 a0 a1 h1)) (fun x4 x5 h6=>
 J 3 (fun j7=>
 B1 (aW x4) fun v8=>
 B1 (fa 1 v8) fun v9=>
 B1 (ld v9 h6) fun v10=>
 B2 (gI P .cap #[52] [v10] h6) fun v11 dP=>
 B1 (aW x4) fun dN=>
 B1 (fa 1 dN) fun cL=>
 B1 (ld cL h6) fun ei=>
 B1 (aV ei) fun dH=>
 B1 (nG v11 dH) fun fx=>
 B1 (cJ fx x5) fun dA=>
 j7 x4 x5 dA h6) (fun aM bB aI jc=>
 CD aI (
 B2 (cf (.func (.func 148) [] []) [aM,bB] jc) fun v23 iZ=>
 some (.tuple [],iZ)) (
 some (.tuple [],jc))))
theorem ajI {a0 a1:AV} {H:Hp} {r:AV × Hp} (h:RX JN GO cK a0 a1 H=some r):cK (.func (.func 112) [] []) [a0,a1] H=some r:=aT (first:=[]) (cap:=[]) (aa0 (by kernel_rfl) h)
noncomputable def Z9 (J:JT) (G:GT) (cf:CF) (a0 a1:AV) (H:Hp):R:=
 B2 (cf (.func (.func 147) [] []) [a0] H) fun v0 h1=>
 J 1 (fun j2=>
 B1 (aW a0) fun v3=>
 B1 (fa 1 v3) fun v4=>
 B1 (ld v4 h1) fun v5=>
 B2 (gC 5 1 [(.int .u8 0)] false v5 a1 h1) fun v6 h7=>
 B1 (aW a0) fun v8=>
 B1 (fa 1 v8) fun v9=>
 B1 (st 1 v9 v6 h7) fun cN=>
 j2 a1 cN) (fun bL dP=>
 B1 (lens bL) fun dN=>
 some (.tuple [dN,.nilIface],dP))
theorem ail {a0 a1:AV} {H:Hp} {r:AV × Hp} (h:Z9 JN GO cK a0 a1 H=some r):cK (.func (.func 113) [] []) [a0,a1] H=some r:=aT (first:=[]) (cap:=[]) (aa0 (by kernel_rfl) h)
noncomputable def Yv (J:JT) (G:GT) (cf:CF) (a0:AV) (H:Hp):R:=
 B1 (aW a0) fun v0=>
 B1 (fa 1 v0) fun v1=>
 B1 (ld v1 H) fun v2=>
 B2 (gI P .unsafeSliceData #[52] [v2] H) fun v3 h4=>
 B1 (aW a0) fun v5=>
 B1 (fa 1 v5) fun v6=>
 B1 (ld v6 h4) fun v7=>
 B1 (aV v7) fun v8=>
 B2 (gI P .unsafeString #[222,3] [v3,v8] h4) fun v9 cN=>
 B1 (ld v6 H) fun v11=>
 SM v7 v11 <|
 B1 (aV v7) fun v12=>
 SM v8 v12 <|
 some (v9,cN)
theorem anK {a0:AV} {H:Hp} {r:AV × Hp} (h:Yv JN GO cK a0 H=some r):cK (.func (.func 114) [] []) [a0] H=some r:=aT (first:=[]) (cap:=[]) (aa0 (by kernel_rfl) h)
noncomputable def Mk (J:JT) (G:GT) (cf:CF) (a0:AV) (H:Hp):R:=
 J 2 (fun j0=>
 B1 (aW a0) fun v1=>
 B1 (fa 0 v1) fun v2=>
 B1 (ld v2 H) fun v3=>
 B1 (AJ .eql (pe v3 .fB H)) fun v4=>
 j0 a0 v4 H) (fun x5 x6 h7=>
 CD x6 (
 B2 (jr P 178 242 x5 h7) fun v8 h9=>
 B2 (cf (.func (.func 168) [] []) [v8] h9) fun v10 fM=>
 B2 (jr P 242 178 v10 fM) fun v12 eZ=>
 B1 (aW x5) fun cL=>
 B1 (fa 0 cL) fun ei=>
 B1 (st 1 ei v12 eZ) fun bM=>
 some (.tuple [],bM)) (
 J 1 (fun jg=>
 B1 (aW x5) fun dA=>
 B1 (fa 0 dA) fun eN=>
 B1 (ld eN h7) fun v20=>
 B1 (AJ .neq (pe v20 x5 h7)) fun v21=>
 jg v21 h7) (fun aE br=>
 CD aE (
 none) (
 some (.tuple [],br)))))
theorem YB {a0:AV} {H:Hp} {r:AV × Hp} (h:Mk JN GO cK a0 H=some r):cK (.func (.func 147) [] []) [a0] H=some r:=aT (first:=[]) (cap:=[]) (aa0 (by kernel_rfl) h)
noncomputable def Xn (J:JT) (G:GT) (cf:CF) (a0 a1:AV) (H:Hp):R:=
 J 2 (fun j0=>
 B1 (aW a0) fun v1=>
 B1 (fa 1 v1) fun v2=>
 B1 (ld v2 H) fun v3=>
 B2 (gI P .cap #[52] [v3] H) fun v4 h5=>
 B1 (vb (.int .i64 2) v4) fun v6=>
 B1 (bW v6 a1) fun v7=>
 B2 (cf (.func (.func 169) [] []) [v7] H) fun v8 h9=>
 B1 (aW a0) fun v10=>
 B1 (fa 1 v10) fun v11=>
 B1 (ld v11 h9) fun v12=>
 B1 (aV v12) fun dN=>
 B1 (pM 1 v8 none (some dN) none) fun cL=>
 B1 (ld v11 H) fun ei=>
 SM v12 ei <|
 B1 (aV v12) fun dH=>
 SM dN dH <|
 j0 a0 cL h9) (fun bh aF dC=>
 J 2 (fun aG=>
 B1 (aW bh) fun v21=>
 B1 (fa 1 v21) fun v22=>
 B1 (ld v22 dC) fun v23=>
 B2 (Bp 1 aF v23 dC) fun v24 dU=>
 aG bh aF dU) (fun cO cB gF=>
 B1 (aW cO) fun v29=>
 B1 (fa 1 v29) fun v30=>
 B1 (st 1 v30 cB gF) fun gz=>
 some (.tuple [],gz)))
theorem alr {a0 a1:AV} {H:Hp} {r:AV × Hp} (h:Xn JN GO cK a0 a1 H=some r):cK (.func (.func 148) [] []) [a0,a1] H=some r:=aT (first:=[]) (cap:=[]) (aa0 (by kernel_rfl) h)
noncomputable def XX (J:JT) (G:GT) (cf:CF) (a0:AV) (H:Hp):R:=
 B2 (cf (.func (.func 111) [] []) [a0] H) fun v0 h1=>
 some (v0,h1)
theorem aob {a0:AV} {H:Hp} {r:AV × Hp} (h:XX JN GO cK a0 H=some r):cK (.func (.func 84) [] []) [a0] H=some r:=aT (first:=[]) (cap:=[]) (aa0 (by kernel_rfl) h)
noncomputable def TT (J:JT) (G:GT) (cf:CF) (a0:AV) (H:Hp):R:=
 B2 (cf (.func (.func 146) [] []) [a0,(.int .i64 10)] H) fun v0 h1=>
 some (v0,h1)
theorem ac9 {a0:AV} {H:Hp} {r:AV × Hp} (h:TT JN GO cK a0 H=some r):cK (.func (.func 111) [] []) [a0] H=some r:=aT (first:=[]) (cap:=[]) (aa0 (by kernel_rfl) h)
noncomputable def Hd (J:JT) (G:GT) (cf:CF) (a0 a1:AV) (H:Hp):R:=
 J 2 (fun j0=>
 B1 (bZ a1 (.int .i64 10)) fun v1=>
 CD v1 (
 J 1 (fun j2=>
 J 2 (fun j3=>
 B1 (oN (.int .i64 0) a0) fun v4=>
 G v4 true (fun k5=>
 k5 a0 H) (fun v6 h7=>
 G v4 true (fun k8=>
 B1 (cJ v6 (.int .i64 100)) fun v9=>
 k8 v9 h7) (fun v10 fM=>
 B1 (pk v4 v10 (.bool false)) fun v12=>
 j3 a0 v12 fM) h7) H) (fun bu bF gV=>
 CD bF (
 B2 (cf (.func (.func 164) [] []) [bu] gV) fun dH dQ=>
 some (dH,dQ)) (
 j2 bu gV))) (fun aF dC=>
 BN (aL dC [(.int .u8 0),(.int .u8 0),(.int .u8 0),(.int .u8 0),(.int .u8 0),(.int .u8 0),(.int .u8 0),(.int .u8 0),(.int .u8 0),(.int .u8 0),(.int .u8 0),(.int .u8 0),(.int .u8 0),(.int .u8 0),(.int .u8 0),(.int .u8 0),(.int .u8 0),(.int .u8 0),(.int .u8 0),(.int .u8 0),(.int .u8 0),(.int .u8 0),(.int .u8 0),(.int .u8 0)] 238 0) fun i20 kc=>
 B1 (cv .u64 aF) fun v22=>
 J 3 (fun ef=>
 B1 (cJ aF (.int .i64 0)) fun v24=>
 CD v24 (
 B1 (fW .neg v22) fun v25=>
 ef aF (.ptr i20 0) v25 kc) (
 ef aF (.ptr i20 0) v22 kc)) (fun cO cB dY dL=>
 B2 (cf (.func (.func 165) [] []) [dY] dL) fun v30 gz=>
 J 3 (fun gw=>
 B1 (bW (.int .i64 1) v30) fun eO=>
 B1 (qX P 238 cB (some (.int .i64 1)) (some eO) none gz) fun eA=>
 B2 (cf (.func (.func 166) [] []) [eA,dY] gz) fun v35 mI=>
 gw cO cB v30 mI) (fun bT bV dm nO=>
 J 2 (fun Q8=>
 B1 (cJ bT (.int .i64 0)) fun eX=>
 CD eX (
 B1 (nq 24 1 bV (.int .i64 0)) fun iS=>
 B1 (st 1 iS (.int .u8 45) nO) fun eL=>
 B1 (bW (.int .i64 1) dm) fun fh=>
 B1 (qX P 238 bV none (some fh) none eL) fun v46=>
 B1 (BX v46 eL) fun ma=>
 some (ma,eL)) (
 Q8 bV dm nO)) (fun gZ jz ki=>
 B1 (bW (.int .i64 1) jz) fun v51=>
 B1 (qX P 238 gZ (some (.int .i64 1)) (some v51) none ki) fun gi=>
 B1 (BX gi ki) fun v53=>
 some (v53,ki)))))) (
 j0 a0 a1 H)) (fun ie fH ou=>
 J 1 (fun Fl=>
 B1 (cv .u64 ie) fun kL=>
 B1 (cJ ie (.int .i64 0)) fun v59=>
 B2 (cf (.func (.func 167) [] []) [.ah,kL,fH,v59,(.bool false)] ou) fun gL iL=>
 B1 (ex 0 gL) fun jd=>
 B1 (ex 1 gL) fun v63=>
 Fl v63 iL) (fun fL lM=>
 some (fL,lM)))
theorem abi (J:JT) (G:GT) (cf:CF) (a0 a1:AV) (H:Hp):fG P J G aU an cf 146 [a0,a1] H=Hd J G cf a0 a1 H:=by kernel_rfl
theorem PE {a0 a1:AV} {H:Hp} {r:AV × Hp} (h:Hd JN GO cK a0 a1 H=some r):cK (.func (.func 146) [] []) [a0,a1] H=some r:=aT (first:=[]) (cap:=[]) ((abi JN GO _ a0 a1 H).trans h)
noncomputable def Qd (J:JT) (G:GT) (cf:CF) (a0:AV) (H:Hp):R:=
 J 1 (fun j0=>
 B1 (cJ a0 (.int .i64 10)) fun v1=>
 CD v1 (
 B1 (bW a0 (.int .i64 1)) fun v2=>
 B1 (np (.str [48,49,50,51,52,53,54,55,56,57,97,98,99,100,101,102,103,104,105,106,107,108,109,110,111,112,113,114,115,116,117,118,119,120,121,122]) (some a0) (some v2)) fun v3=>
 some (v3,H)) (
 j0 a0 H)) (fun x4 h5=>
 B1 (vb x4 (.int .i64 2)) fun v6=>
 B1 (vb x4 (.int .i64 2)) fun v7=>
 B1 (bW v7 (.int .i64 2)) fun v8=>
 B1 (np (.str [48,48,48,49,48,50,48,51,48,52,48,53,48,54,48,55,48,56,48,57,49,48,49,49,49,50,49,51,49,52,49,53,49,54,49,55,49,56,49,57,50,48,50,49,50,50,50,51,50,52,50,53,50,54,50,55,50,56,50,57,51,48,51,49,51,50,51,51,51,52,51,53,51,54,51,55,51,56,51,57,52,48,52,49,52,50,52,51,52,52,52,53,52,54,52,55,52,56,52,57,53,48,53,49,53,50,53,51,53,52,53,53,53,54,53,55,53,56,53,57,54,48,54,49,54,50,54,51,54,52,54,53,54,54,54,55,54,56,54,57,55,48,55,49,55,50,55,51,55,52,55,53,55,54,55,55,55,56,55,57,56,48,56,49,56,50,56,51,56,52,56,53,56,54,56,55,56,56,56,57,57,48,57,49,57,50,57,51,57,52,57,53,57,54,57,55,57,56,57,57]) (some v6) (some v8)) fun v9=>
 some (v9,h5))
theorem afF (J:JT) (G:GT) (cf:CF) (a0:AV) (H:Hp):fG P J G aU an cf 164 [a0] H=Qd J G cf a0 H:=by kernel_rfl
theorem aey {a0:AV} {H:Hp} {r:AV × Hp} (h:Qd JN GO cK a0 H=some r):cK (.func (.func 164) [] []) [a0] H=some r:=aT (first:=[]) (cap:=[]) ((afF JN GO _ a0 H).trans h)
noncomputable def Yq (J:JT) (G:GT) (cf:CF) (a0:AV) (H:Hp):R:=
 B2 (cf (.func (.func 182) [] []) [a0] H) fun v0 h1=>
 B2 (cf (.func (.func 181) [] []) [v0] h1) fun v2 h3=>
 B1 (nq 20 1 (.ptr 0 0) v2) fun v4=>
 B1 (ld v4 h3) fun v5=>
 B1 (lY a0 v5) fun v6=>
 B2 (cf (.func (.func 183) [] []) [v6] h3) fun v7 h8=>
 B1 (bW v2 v7) fun v9=>
 some (v9,h8)
theorem al6 {a0:AV} {H:Hp} {r:AV × Hp} (h:Yq JN GO cK a0 H=some r):cK (.func (.func 165) [] []) [a0] H=some r:=aT (first:=[]) (cap:=[]) (aa0 (by kernel_rfl) h)
noncomputable def Vn (J:JT) (G:GT) (cf:CF) (a0:AV) (H:Hp):R:=
 B1 (vb a0 (.int .i64 78913)) fun v0=>
 B1 (z6 v0 (.int .u64 18)) fun v1=>
 some (v1,H)
theorem acr {a0:AV} {H:Hp} {r:AV × Hp} (h:Vn JN GO cK a0 H=some r):cK (.func (.func 181) [] []) [a0] H=some r:=aT (first:=[]) (cap:=[]) (aa0 (by kernel_rfl) h)
noncomputable def LC (J:JT) (G:GT) (cf:CF) (a0:AV) (H:Hp):R:=
 CD a0 (
 some ((.int .i64 1),H)) (
 some ((.int .i64 0),H))
theorem WX {a0:AV} {H:Hp} {r:AV × Hp} (h:LC JN GO cK a0 H=some r):cK (.func (.func 183) [] []) [a0] H=some r:=aT (first:=[]) (cap:=[]) (aa0 (by kernel_rfl) h)
noncomputable def OA (J:JT) (G:GT) (cf:CF) (j2:K.Fn 0) (j3:K.Fn 4) (x4 x5 x6 x7:AV) (h8:Hp):R:=
 B1 (cJ x7 x6) fun v9=>
 CD v9 (
 J 4 (fun aX=>
 J 6 (fun mE=>
 B1 (ia 1 x4 x7) fun v12=>
 B1 (ld v12 h8) fun dN=>
 B1 (seq x5 dN) fun cL=>
 mE x4 x5 x7 x6 x7 cL h8) (fun bw aZ bh aF aM bB kc=>
 CD bB (
 some (bh,kc)) (
 aX bw aZ aF aM kc))) (fun aE bp bI bP er=>
 B1 (bW bP (.int .i64 1)) fun v27=>
 j3 aE bp bI v27 er)) (
 j2  h8)
noncomputable def DS (J:JT) (G:GT) (cf:CF) (j2:K.Fn 0):K.Fn 4:=dT P an J G cf 104 [1,0,1,0,0] [0,1,7,8] (fun q t H=>match Nat.beq q 0 with | true=>app 0 j2 (ax [] t) H | false=>(fun _ _ _=>none) q t H)
theorem ZR (cf:CF) (j2:K.Fn 0) (x4 x5 x6 x7:AV) (h8:Hp):DS JN GO cf j2 x4 x5 x6 x7 h8=OA JN GO cf j2 (DS JN GO cf j2) x4 x5 x6 x7 h8:=aa0 (b:=app 4 (DS JN GO cf j2) [x4,x5,x6,x7] h8) (by kernel_rfl) ((ey cf 104 [1,0,1,0,0] [0,1,7,8] _ [x4,x5,x6,x7] rfl h8).trans (by kernel_rfl))
noncomputable def Ut (J:JT) (G:GT) (cf:CF) (a0 a1:AV) (H:Hp):R:=
 J 0 (fun j0=>
 B1 (aV a0) fun v1=>
 J 0 (fun j2=>
 DS J G cf j2 a0 a1 v1 (.int .i64 0) H) (fun  gF=>
 j0  gF)) (fun  dL=>
 some ((.int .i64 (-1)),dL))
theorem afs {a0 a1:AV} {H:Hp} {r:AV × Hp} (h:Ut JN GO cK a0 a1 H=some r):cK (.func (.func 104) [] []) [a0,a1] H=some r:=aT (first:=[]) (cap:=[]) (aa0 (by kernel_rfl) h)
noncomputable def Tb (J:JT) (G:GT) (cf:CF) (a0 a1:AV) (H:Hp):R:=
 B2 (cf (.func (.func 104) [] []) [a0,a1] H) fun v0 h1=>
 B1 (lY v0 (.int .i64 0)) fun v2=>
 some (v2,h1)
theorem aiq {a0 a1:AV} {H:Hp} {r:AV × Hp} (h:Tb JN GO cK a0 a1 H=some r):cK (.func (.func 94) [] []) [a0,a1] H=some r:=aT (first:=[]) (cap:=[]) (aa0 (by kernel_rfl) h)
noncomputable def M9 (J:JT) (G:GT) (cf:CF) (j4:K.Fn 0) (j5:K.Fn 4) (x6 x7 x8 x9:AV) (cN:Hp):R:=
 B1 (cJ x9 x8) fun v11=>
 CD v11 (
 J 4 (fun cg=>
 J 6 (fun eU=>
 B1 (aC 2 x7 cN) fun cL=>
 B1 (ia 2 x6 x9) fun ei=>
 B1 (aC 2 ei cN) fun dH=>
 sS (gA P .eql 231 false cL dH) <| B1 (eS P .eql 231 cL dH cN) fun fx=>
 eU x6 x7 x9 x8 x9 fx cN) (fun aF aM bB aI aE bp iZ=>
 CD bp (
 some (bB,iZ)) (
 cg aF aM aI aE iZ))) (fun bP cO cB dY dL=>
 B1 (bW dY (.int .i64 1)) fun v30=>
 j5 bP cO cB v30 dL)) (
 j4  cN)
noncomputable def EU (J:JT) (G:GT) (cf:CF) (j4:K.Fn 0):K.Fn 4:=dT P an J G cf 177 [1,0,1,0,0] [0,3,7,8] (fun q t H=>match Nat.beq q 0 with | true=>app 0 j4 (ax [] t) H | false=>(fun _ _ _=>none) q t H)
theorem T9 (cf:CF) (j4:K.Fn 0) (x6 x7 x8 x9:AV) (cN:Hp):EU JN GO cf j4 x6 x7 x8 x9 cN=M9 JN GO cf j4 (EU JN GO cf j4) x6 x7 x8 x9 cN:=aa0 (b:=app 4 (EU JN GO cf j4) [x6,x7,x8,x9] cN) (by kernel_rfl) ((ey cf 177 [1,0,1,0,0] [0,3,7,8] _ [x6,x7,x8,x9] rfl cN).trans (by kernel_rfl))
noncomputable def Yh (J:JT) (G:GT) (cf:CF) (a0 a1:AV) (H:Hp):R:=
 BN (bx 231 a1 H) fun i0 h1=>
 J 0 (fun j2=>
 B1 (aV a0) fun v3=>
 J 0 (fun j4=>
 EU J G cf j4 a0 (.ptr i0 0) v3 (.int .i64 0) h1) (fun  gz=>
 j2  gz)) (fun  cU=>
 some ((.int .i64 (-1)),cU))
theorem aiT {a0 a1:AV} {H:Hp} {r:AV × Hp} (h:Yh JN GO cK a0 a1 H=some r):cK (.func (.func 177) [] []) [a0,a1] H=some r:=aT (first:=[]) (cap:=[]) (aa0 (by kernel_rfl) h)
noncomputable def aaf (J:JT) (G:GT) (cf:CF) (a0 a1:AV) (H:Hp):R:=
 BN (bx 231 a1 H) fun i0 h1=>
 B1 (aC 2 (.ptr i0 0) h1) fun v2=>
 B2 (cf (.func (.func 177) [] []) [a0,v2] h1) fun v3 h4=>
 B1 (lY v3 (.int .i64 0)) fun v5=>
 some (v5,h4)
theorem ajz {a0 a1:AV} {H:Hp} {r:AV × Hp} (h:aaf JN GO cK a0 a1 H=some r):cK (.func (.func 158) [] []) [a0,a1] H=some r:=aT (first:=[]) (cap:=[]) (aa0 (by kernel_rfl) h)
noncomputable def XW (J:JT) (G:GT) (cf:CF) (a0 a1:AV) (H:Hp):R:=
 B2 (cf (.func (.func 163) [] []) [a0,a1] H) fun v0 h1=>
 B1 (lY v0 (.int .i64 0)) fun v2=>
 some (v2,h1)
theorem afh {a0 a1:AV} {H:Hp} {r:AV × Hp} (h:XW JN GO cK a0 a1 H=some r):cK (.func (.func 143) [] []) [a0,a1] H=some r:=aT (first:=[]) (cap:=[]) (aa0 (by kernel_rfl) h)
noncomputable def Io (J:JT) (G:GT) (cf:CF) (j2:K.Fn 0) (j3:K.Fn 4) (x4 x5 x6 x7:AV) (h8:Hp):R:=
 B1 (cJ x7 x6) fun v9=>
 CD v9 (
 J 4 (fun aX=>
 J 6 (fun mE=>
 B1 (ia 1 x4 x7) fun v12=>
 B1 (ld v12 h8) fun dN=>
 B2 (cf x5 [dN] h8) fun cL gV=>
 mE x4 x5 x7 x6 x7 cL gV) (fun aZ bh aF aM bB aI jc=>
 CD aI (
 some (aF,jc)) (
 aX aZ bh aM bB jc))) (fun bp bI bP cO eP=>
 B1 (bW cO (.int .i64 1)) fun v28=>
 j3 bp bI bP v28 eP)) (
 j2  h8)
noncomputable def HD (J:JT) (G:GT) (cf:CF) (j2:K.Fn 0):K.Fn 4:=dT P an J G cf 163 [1,0,1,0,0] [0,1,7,8] (fun q t H=>match Nat.beq q 0 with | true=>app 0 j2 (ax [] t) H | false=>(fun _ _ _=>none) q t H)
theorem QG (cf:CF) (j2:K.Fn 0) (x4 x5 x6 x7:AV) (h8:Hp):HD JN GO cf j2 x4 x5 x6 x7 h8=Io JN GO cf j2 (HD JN GO cf j2) x4 x5 x6 x7 h8:=aa0 (b:=app 4 (HD JN GO cf j2) [x4,x5,x6,x7] h8) (by kernel_rfl) ((ey cf 163 [1,0,1,0,0] [0,1,7,8] _ [x4,x5,x6,x7] rfl h8).trans (by kernel_rfl))
noncomputable def W8 (J:JT) (G:GT) (cf:CF) (a0 a1:AV) (H:Hp):R:=
 J 0 (fun j0=>
 B1 (aV a0) fun v1=>
 J 0 (fun j2=>
 HD J G cf j2 a0 a1 v1 (.int .i64 0) H) (fun  dL=>
 j0  dL)) (fun  kO=>
 some ((.int .i64 (-1)),kO))
theorem aj7 {a0 a1:AV} {H:Hp} {r:AV × Hp} (h:W8 JN GO cK a0 a1 H=some r):cK (.func (.func 163) [] []) [a0,a1] H=some r:=aT (first:=[]) (cap:=[]) (aa0 (by kernel_rfl) h)
noncomputable def MA (J:JT) (G:GT) (cf:CF) (j2:K.Fn 0) (j3:K.Fn 4) (x4 x5 x6 x7:AV) (h8:Hp):R:=
 B1 (cJ x7 x6) fun v9=>
 CD v9 (
 J 4 (fun aX=>
 J 6 (fun mE=>
 B1 (ia 1 x4 x7) fun v12=>
 B1 (ld v12 h8) fun dN=>
 B1 (bZ x5 dN) fun cL=>
 mE x4 x5 x7 x6 x7 cL h8) (fun bw aZ bh aF aM bB kc=>
 CD bB (
 some (bh,kc)) (
 aX bw aZ aF aM kc))) (fun aE bp bI bP er=>
 B1 (bW bP (.int .i64 1)) fun v27=>
 j3 aE bp bI v27 er)) (
 j2  h8)
noncomputable def FE (J:JT) (G:GT) (cf:CF) (j2:K.Fn 0):K.Fn 4:=dT P an J G cf 174 [1,0,1,0,0] [0,1,7,8] (fun q t H=>match Nat.beq q 0 with | true=>app 0 j2 (ax [] t) H | false=>(fun _ _ _=>none) q t H)
theorem T8 (cf:CF) (j2:K.Fn 0) (x4 x5 x6 x7:AV) (h8:Hp):FE JN GO cf j2 x4 x5 x6 x7 h8=MA JN GO cf j2 (FE JN GO cf j2) x4 x5 x6 x7 h8:=aa0 (b:=app 4 (FE JN GO cf j2) [x4,x5,x6,x7] h8) (by kernel_rfl) ((ey cf 174 [1,0,1,0,0] [0,1,7,8] _ [x4,x5,x6,x7] rfl h8).trans (by kernel_rfl))
noncomputable def WZ (J:JT) (G:GT) (cf:CF) (a0 a1:AV) (H:Hp):R:=
 J 0 (fun j0=>
 B1 (aV a0) fun v1=>
 J 0 (fun j2=>
 FE J G cf j2 a0 a1 v1 (.int .i64 0) H) (fun  gF=>
 j0  gF)) (fun  dL=>
 some ((.int .i64 (-1)),dL))
theorem acb {a0 a1:AV} {H:Hp} {r:AV × Hp} (h:WZ JN GO cK a0 a1 H=some r):cK (.func (.func 174) [] []) [a0,a1] H=some r:=aT (first:=[]) (cap:=[]) (aa0 (by kernel_rfl) h)
noncomputable def UI (J:JT) (G:GT) (cf:CF) (a0 a1:AV) (H:Hp):R:=
 B2 (cf (.func (.func 174) [] []) [a0,a1] H) fun v0 h1=>
 B1 (lY v0 (.int .i64 0)) fun v2=>
 some (v2,h1)
theorem abu {a0 a1:AV} {H:Hp} {r:AV × Hp} (h:UI JN GO cK a0 a1 H=some r):cK (.func (.func 154) [] []) [a0,a1] H=some r:=aT (first:=[]) (cap:=[]) (aa0 (by kernel_rfl) h)
noncomputable def Vl (J:JT) (G:GT) (cf:CF) (a0 a1:AV) (H:Hp):R:=
 B2 (cf (.func (.func 135) [] []) [a0,a1] H) fun v0 h1=>
 B1 (lY v0 (.int .i64 0)) fun v2=>
 some (v2,h1)
theorem ach {a0 a1:AV} {H:Hp} {r:AV × Hp} (h:Vl JN GO cK a0 a1 H=some r):cK (.func (.func 95) [] []) [a0,a1] H=some r:=aT (first:=[]) (cap:=[]) (aa0 (by kernel_rfl) h)
noncomputable def Kv (J:JT) (G:GT) (cf:CF) (j2:K.Fn 0) (j3:K.Fn 4) (x4 x5 x6 x7:AV) (h8:Hp):R:=
 B1 (cJ x7 x6) fun v9=>
 CD v9 (
 J 4 (fun aX=>
 J 6 (fun mE=>
 B1 (ia 6 x4 x7) fun v12=>
 B1 (aC 6 v12 h8) fun dN=>
 B2 (cf x5 [dN] h8) fun cL gV=>
 mE x4 x5 x7 x6 x7 cL gV) (fun aZ bh aF aM bB aI jc=>
 CD aI (
 some (aF,jc)) (
 aX aZ bh aM bB jc))) (fun bp bI bP cO eP=>
 B1 (bW cO (.int .i64 1)) fun v28=>
 j3 bp bI bP v28 eP)) (
 j2  h8)
noncomputable def Hi (J:JT) (G:GT) (cf:CF) (j2:K.Fn 0):K.Fn 4:=dT P an J G cf 135 [1,0,1,0,0] [0,1,7,8] (fun q t H=>match Nat.beq q 0 with | true=>app 0 j2 (ax [] t) H | false=>(fun _ _ _=>none) q t H)
theorem L0 (cf:CF) (j2:K.Fn 0) (x4 x5 x6 x7:AV) (h8:Hp):Hi JN GO cf j2 x4 x5 x6 x7 h8=Kv JN GO cf j2 (Hi JN GO cf j2) x4 x5 x6 x7 h8:=aa0 (b:=app 4 (Hi JN GO cf j2) [x4,x5,x6,x7] h8) (by kernel_rfl) ((ey cf 135 [1,0,1,0,0] [0,1,7,8] _ [x4,x5,x6,x7] rfl h8).trans (by kernel_rfl))
noncomputable def WG (J:JT) (G:GT) (cf:CF) (a0 a1:AV) (H:Hp):R:=
 J 0 (fun j0=>
 B1 (aV a0) fun v1=>
 J 0 (fun j2=>
 Hi J G cf j2 a0 a1 v1 (.int .i64 0) H) (fun  dL=>
 j0  dL)) (fun  kO=>
 some ((.int .i64 (-1)),kO))
theorem akw {a0 a1:AV} {H:Hp} {r:AV × Hp} (h:WG JN GO cK a0 a1 H=some r):cK (.func (.func 135) [] []) [a0,a1] H=some r:=aT (first:=[]) (cap:=[]) (aa0 (by kernel_rfl) h)
noncomputable def M8 (J:JT) (G:GT) (cf:CF) (a0:AV) (H:Hp):R:=
 sS (gA P .eql 70 true a0 .ah) <| B1 (eS P .eql 70 a0 .ah H) fun v0=>
 CD v0 (
 some (.ah,H)) (
 B1 (fl [] []) fun l1=>
 BN (aL H l1 99 0) fun i2 h3=>
 B2 (gC 99 6 [(.str []),.ah,(.int .i64 0),(.int .i64 0),(.int .i64 0),(.str [])] false (.slice i2 0 0 0 true 6) a0 h3) fun v4 h5=>
 some (v4,h5))
theorem Vc {a0:AV} {H:Hp} {r:AV × Hp} (h:M8 JN GO cK a0 H=some r):cK (.func (.func 136) [] []) [a0] H=some r:=aT (first:=[]) (cap:=[]) (aa0 (by kernel_rfl) h)
noncomputable def P2 (J:JT) (G:GT) (cf:CF) (a0:AV) (H:Hp):R:=
 sS (gA P .eql 97 true a0 .ah) <| B1 (eS P .eql 97 a0 .ah H) fun v0=>
 CD v0 (
 some (.ah,H)) (
 B1 (fl [] []) fun l1=>
 BN (aL H l1 3 0) fun i2 h3=>
 B2 (gC 3 1 [(.int .i64 0)] false (.slice i2 0 0 0 true 1) a0 h3) fun v4 h5=>
 some (v4,h5))
theorem Vs {a0:AV} {H:Hp} {r:AV × Hp} (h:P2 JN GO cK a0 H=some r):cK (.func (.func 137) [] []) [a0] H=some r:=aT (first:=[]) (cap:=[]) (aa0 (by kernel_rfl) h)
noncomputable def PL (J:JT) (G:GT) (cf:CF) (a0:AV) (H:Hp):R:=
 sS (gA P .eql 73 true a0 .ah) <| B1 (eS P .eql 73 a0 .ah H) fun v0=>
 CD v0 (
 some (.ah,H)) (
 B1 (fl [] []) fun l1=>
 BN (aL H l1 132 0) fun i2 h3=>
 B2 (gC 132 4 [(.int .i64 0),(.int .i64 0),(.int .i64 0),(.str [])] false (.slice i2 0 0 0 true 4) a0 h3) fun v4 h5=>
 some (v4,h5))
theorem Zs {a0:AV} {H:Hp} {r:AV × Hp} (h:PL JN GO cK a0 H=some r):cK (.func (.func 138) [] []) [a0] H=some r:=aT (first:=[]) (cap:=[]) (aa0 (by kernel_rfl) h)
noncomputable def QU (J:JT) (G:GT) (cf:CF) (a0:AV) (H:Hp):R:=
 sS (gA P .eql 46 true a0 .ah) <| B1 (eS P .eql 46 a0 .ah H) fun v0=>
 CD v0 (
 some (.ah,H)) (
 B1 (fl [] []) fun l1=>
 BN (aL H l1 9 0) fun i2 h3=>
 B2 (gC 9 1 [(.str [])] false (.slice i2 0 0 0 true 1) a0 h3) fun v4 h5=>
 some (v4,h5))
theorem Uh {a0:AV} {H:Hp} {r:AV × Hp} (h:QU JN GO cK a0 H=some r):cK (.func (.func 30) [] []) [a0] H=some r:=aT (first:=[]) (cap:=[]) (aa0 (by kernel_rfl) h)
noncomputable def PT (J:JT) (G:GT) (cf:CF) (bR:K.Fn 0) (fZ:K.Fn 4) (aZ bh aF aM:AV) (cx:Hp):R:=
 B1 (cJ aM aF) fun v21=>
 CD v21 (
 J 4 (fun rR=>
 J 5 (fun ef=>
 B1 (ia 1 aZ aM) fun v24=>
 B1 (ld v24 cx) fun v25=>
 B1 (ia 1 bh aM) fun v26=>
 B1 (ld v26 cx) fun v27=>
 B1 (gy v25 v27) fun v28=>
 ef aZ bh aF aM v28 cx) (fun cP bY bO eB cH fQ=>
 CD cH (
 some ((.bool false),fQ)) (
 rR cP bY bO eB fQ))) (fun dh bQ bT bV jj=>
 B1 (bW bV (.int .i64 1)) fun v40=>
 fZ dh bQ bT v40 jj)) (
 bR  cx)
noncomputable def DT (J:JT) (G:GT) (cf:CF) (bR:K.Fn 0):K.Fn 4:=dT P an J G cf 72 [1,1,0,1,0,0] [0,1,12,13] (fun q t H=>match Nat.beq q 0 with | true=>app 0 bR (ax [] t) H | false=>(fun _ _ _=>none) q t H)
theorem Zp (cf:CF) (bR:K.Fn 0) (aZ bh aF aM:AV) (cx:Hp):DT JN GO cf bR aZ bh aF aM cx=PT JN GO cf bR (DT JN GO cf bR) aZ bh aF aM cx:=aa0 (b:=app 4 (DT JN GO cf bR) [aZ,bh,aF,aM] cx) (by kernel_rfl) ((ey cf 72 [1,1,0,1,0,0] [0,1,12,13] _ [aZ,bh,aF,aM] rfl cx).trans (by kernel_rfl))
noncomputable def VN (J:JT) (G:GT) (cf:CF) (a0 a1:AV) (H:Hp):R:=
 J 2 (fun j0=>
 J 3 (fun j1=>
 B1 (aV a0) fun v2=>
 B1 (aV a1) fun v3=>
 B1 (gy v2 v3) fun v4=>
 j1 a0 a1 v4 H) (fun x5 x6 x7 h8=>
 CD x7 (
 some ((.bool false),h8)) (
 j0 x5 x6 h8))) (fun x9 cq fM=>
 J 0 (fun cg=>
 B1 (aV x9) fun dN=>
 J 0 (fun bR=>
 DT J G cf bR x9 cq dN (.int .i64 0) fM) (fun  fP=>
 cg  fP)) (fun  ez=>
 some ((.bool true),ez)))
theorem amB {a0 a1:AV} {H:Hp} {r:AV × Hp} (h:VN JN GO cK a0 a1 H=some r):cK (.func (.func 72) [] []) [a0,a1] H=some r:=aT (first:=[]) (cap:=[]) (aa0 (by kernel_rfl) h)
noncomputable def bl_slices_Equal___run_Task_run_Task_ (J:JT) (G:GT) (cf:CF) (bR:K.Fn 0) (fZ:K.Fn 4) (aZ bh aF aM:AV) (cx:Hp):R:=
 B1 (cJ aM aF) fun v21=>
 CD v21 (
 J 4 (fun rR=>
 J 5 (fun ef=>
 B1 (ia 4 aZ aM) fun v24=>
 B1 (aC 4 v24 cx) fun v25=>
 B1 (ia 4 bh aM) fun v26=>
 B1 (aC 4 v26 cx) fun v27=>
 sS (gA P .neq 132 false v25 v27) <| B1 (eS P .neq 132 v25 v27 cx) fun v28=>
 ef aZ bh aF aM v28 cx) (fun cP bY bO eB cH fQ=>
 CD cH (
 some ((.bool false),fQ)) (
 rR cP bY bO eB fQ))) (fun dh bQ bT bV jj=>
 B1 (bW bV (.int .i64 1)) fun v40=>
 fZ dh bQ bT v40 jj)) (
 bR  cx)
noncomputable def EK (J:JT) (G:GT) (cf:CF) (bR:K.Fn 0):K.Fn 4:=dT P an J G cf 73 [1,1,0,1,0,0] [0,1,12,13] (fun q t H=>match Nat.beq q 0 with | true=>app 0 bR (ax [] t) H | false=>(fun _ _ _=>none) q t H)
theorem SX (cf:CF) (bR:K.Fn 0) (aZ bh aF aM:AV) (cx:Hp):EK JN GO cf bR aZ bh aF aM cx=bl_slices_Equal___run_Task_run_Task_ JN GO cf bR (EK JN GO cf bR) aZ bh aF aM cx:=aa0 (b:=app 4 (EK JN GO cf bR) [aZ,bh,aF,aM] cx) (by kernel_rfl) ((ey cf 73 [1,1,0,1,0,0] [0,1,12,13] _ [aZ,bh,aF,aM] rfl cx).trans (by kernel_rfl))
noncomputable def Sg (J:JT) (G:GT) (cf:CF) (a0 a1:AV) (H:Hp):R:=
 J 2 (fun j0=>
 J 3 (fun j1=>
 B1 (aV a0) fun v2=>
 B1 (aV a1) fun v3=>
 B1 (gy v2 v3) fun v4=>
 j1 a0 a1 v4 H) (fun x5 x6 x7 h8=>
 CD x7 (
 some ((.bool false),h8)) (
 j0 x5 x6 h8))) (fun x9 cq fM=>
 J 0 (fun cg=>
 B1 (aV x9) fun dN=>
 J 0 (fun bR=>
 EK J G cf bR x9 cq dN (.int .i64 0) fM) (fun  fP=>
 cg  fP)) (fun  ez=>
 some ((.bool true),ez)))
theorem adh {a0 a1:AV} {H:Hp} {r:AV × Hp} (h:Sg JN GO cK a0 a1 H=some r):cK (.func (.func 73) [] []) [a0,a1] H=some r:=aT (first:=[]) (cap:=[]) (aa0 (by kernel_rfl) h)
noncomputable def NN (J:JT) (G:GT) (cf:CF) (bR:K.Fn 0) (fZ:K.Fn 4) (aZ bh aF aM:AV) (cx:Hp):R:=
 B1 (cJ aM aF) fun v21=>
 CD v21 (
 J 4 (fun rR=>
 J 5 (fun ef=>
 B1 (ia 1 aZ aM) fun v24=>
 B1 (ld v24 cx) fun v25=>
 B1 (ia 1 bh aM) fun v26=>
 B1 (ld v26 cx) fun v27=>
 B1 (rK v25 v27) fun v28=>
 ef aZ bh aF aM v28 cx) (fun cP bY bO eB cH fQ=>
 CD cH (
 some ((.bool false),fQ)) (
 rR cP bY bO eB fQ))) (fun dh bQ bT bV jj=>
 B1 (bW bV (.int .i64 1)) fun v40=>
 fZ dh bQ bT v40 jj)) (
 bR  cx)
noncomputable def Fu (J:JT) (G:GT) (cf:CF) (bR:K.Fn 0):K.Fn 4:=dT P an J G cf 74 [1,1,0,1,0,0] [0,1,12,13] (fun q t H=>match Nat.beq q 0 with | true=>app 0 bR (ax [] t) H | false=>(fun _ _ _=>none) q t H)
theorem T7 (cf:CF) (bR:K.Fn 0) (aZ bh aF aM:AV) (cx:Hp):Fu JN GO cf bR aZ bh aF aM cx=NN JN GO cf bR (Fu JN GO cf bR) aZ bh aF aM cx:=aa0 (b:=app 4 (Fu JN GO cf bR) [aZ,bh,aF,aM] cx) (by kernel_rfl) ((ey cf 74 [1,1,0,1,0,0] [0,1,12,13] _ [aZ,bh,aF,aM] rfl cx).trans (by kernel_rfl))
noncomputable def YN (J:JT) (G:GT) (cf:CF) (a0 a1:AV) (H:Hp):R:=
 J 2 (fun j0=>
 J 3 (fun j1=>
 B1 (aV a0) fun v2=>
 B1 (aV a1) fun v3=>
 B1 (gy v2 v3) fun v4=>
 j1 a0 a1 v4 H) (fun x5 x6 x7 h8=>
 CD x7 (
 some ((.bool false),h8)) (
 j0 x5 x6 h8))) (fun x9 cq fM=>
 J 0 (fun cg=>
 B1 (aV x9) fun dN=>
 J 0 (fun bR=>
 Fu J G cf bR x9 cq dN (.int .i64 0) fM) (fun  fP=>
 cg  fP)) (fun  ez=>
 some ((.bool true),ez)))
theorem anW {a0 a1:AV} {H:Hp} {r:AV × Hp} (h:YN JN GO cK a0 a1 H=some r):cK (.func (.func 74) [] []) [a0,a1] H=some r:=aT (first:=[]) (cap:=[]) (aa0 (by kernel_rfl) h)
noncomputable def bl_slices_EqualFunc___def_Task___def_Task_def_Task_def_Task_ (J:JT) (G:GT) (cf:CF) (aR:K.Fn 0) (jg:K.Fn 5) (aF aM bB aI aE:AV) (br:Hp):R:=
 B1 (cJ aE aI) fun v24=>
 CD v24 (
 J 5 (fun xZ=>
 J 7 (fun xK=>
 B1 (ia 6 bB aE) fun v27=>
 B1 (aC 6 v27 br) fun v28=>
 BN (aL br [(.str []),.ah,(.int .i64 0),(.int .i64 0),(.int .i64 0),(.str [])] 99 0) fun i29 kO=>
 B1 (st 6 (.ptr i29 0) v28 kO) fun gz=>
 xK aF aM aE (.ptr i29 0) bB aI aE gz) (fun eB cH dc dh bQ bT bV jj=>
 J 7 (fun qD=>
 B1 (ia 6 eB dc) fun v41=>
 B1 (aC 6 v41 jj) fun eX=>
 BN (aL jj [(.str []),.ah,(.int .i64 0),(.int .i64 0),(.int .i64 0),(.str [])] 99 0) fun i43 eL=>
 B1 (st 6 (.ptr i43 0) eX eL) fun jX=>
 qD eB cH dh (.ptr i43 0) bQ bT bV jX) (fun fK gO gZ jz kH jM fO fE=>
 J 6 (fun dW=>
 B1 (aC 6 gZ fE) fun hU=>
 B1 (aC 6 jz fE) fun mb=>
 B2 (cf gO [hU,mb] fE) fun v57 lT=>
 B1 (fW .not v57) fun v59=>
 dW fK gO kH jM fO v59 lT) (fun eD dV iX gx fL fY fI=>
 CD fY (
 some ((.bool false),fI)) (
 xZ eD dV iX gx fL fI))))) (fun jI jY lG kV pT mn=>
 B1 (bW pT (.int .i64 1)) fun jO=>
 jg jI jY lG kV jO mn)) (
 aR  br)
noncomputable def HA (J:JT) (G:GT) (cf:CF) (aR:K.Fn 0):K.Fn 5:=dT P an J G cf 75 [1,1,0,1,0,0] [1,2,15,16,17] (fun q t H=>match Nat.beq q 0 with | true=>app 0 aR (ax [] t) H | false=>(fun _ _ _=>none) q t H)
theorem aka (J:JT) (G:GT) (cf:CF) (aR:K.Fn 0) (jg:K.Fn 5) (aF aM bB aI aE:AV) (br:Hp):kT P an J G cf 75 [1,1,0,1,0,0] [1,2,15,16,17] (fun q t H=>match Nat.beq q 0 with | true=>app 0 aR (ax [] t) H | false=>(fun _ _ _=>none) q t H) jg [aF,aM,bB,aI,aE] br=bl_slices_EqualFunc___def_Task___def_Task_def_Task_def_Task_ J G cf aR jg aF aM bB aI aE br:=by kernel_rfl
theorem O5 (cf:CF) (aR:K.Fn 0) (aF aM bB aI aE:AV) (br:Hp):HA JN GO cf aR aF aM bB aI aE br=bl_slices_EqualFunc___def_Task___def_Task_def_Task_def_Task_ JN GO cf aR (HA JN GO cf aR) aF aM bB aI aE br:=aa0 (b:=app 5 (HA JN GO cf aR) [aF,aM,bB,aI,aE] br) (by kernel_rfl) ((ey cf _ _ _ _ [aF,aM,bB,aI,aE] rfl br).trans (aka JN GO cf aR _ aF aM bB aI aE br))
noncomputable def Ib (J:JT) (G:GT) (cf:CF) (a0 a1 a2:AV) (H:Hp):R:=
 J 3 (fun j0=>
 J 4 (fun j1=>
 B1 (aV a0) fun v2=>
 B1 (aV a1) fun v3=>
 B1 (gy v2 v3) fun v4=>
 j1 a0 a1 a2 v4 H) (fun x5 x6 x7 x8 h9=>
 CD x8 (
 some ((.bool false),h9)) (
 j0 x5 x6 x7 h9))) (fun cq bL bA eZ=>
 J 0 (fun bR=>
 B1 (aV cq) fun ei=>
 J 0 (fun aR=>
 HA J G cf aR bL bA cq ei (.int .i64 0) eZ) (fun  yZ=>
 bR  yZ)) (fun  oJ=>
 some ((.bool true),oJ)))
theorem aje (J:JT) (G:GT) (cf:CF) (a0 a1 a2:AV) (H:Hp):fG P J G aU an cf 75 [a0,a1,a2] H=Ib J G cf a0 a1 a2 H:=by kernel_rfl
theorem ZO {a0 a1 a2:AV} {H:Hp} {r:AV × Hp} (h:Ib JN GO cK a0 a1 a2 H=some r):cK (.func (.func 75) [] []) [a0,a1,a2] H=some r:=aT (first:=[]) (cap:=[]) ((aje JN GO _ a0 a1 a2 H).trans h)
noncomputable def JA (J:JT) (G:GT) (cf:CF) (da:K.Fn 0) (gw:K.Fn 5) (cH dc dh bQ bT:AV) (eT:Hp):R:=
 B1 (cJ bT bQ) fun eQ=>
 CD eQ (
 J 5 (fun qD=>
 B1 (ia 2 dh bT) fun v41=>
 B1 (aC 2 v41 eT) fun eX=>
 BN (aL eT [(.int .i64 0),(.int .i64 0)] 231 0) fun i43 eL=>
 B1 (st 2 (.ptr i43 0) eX eL) fun jX=>
 J 6 (fun Mx=>
 J 7 (fun xv=>
 B1 (aC 2 cH jX) fun gk=>
 B1 (nq 2 1 (.ptr i43 0) (.int .i64 0)) fun v49=>
 B1 (ld v49 jX) fun jw=>
 B2 (cf (.func (.func 175) [] []) [gk,jw] jX) fun v51 sC=>
 B1 (fW .not v51) fun v53=>
 G v53 false (fun k54=>
 B1 (aC 2 cH sC) fun hU=>
 k54 hU sC) (fun mb nB=>
 G v53 false (fun MJ=>
 B1 (nq 2 1 (.ptr i43 0) (.int .i64 1)) fun v59=>
 MJ v59 nB) (fun gL iL=>
 G v53 false (fun k62=>
 B1 (ld gL iL) fun v63=>
 k62 v63 iL) (fun v64 lM=>
 G v53 false (fun Nq=>
 B2 (cf (.func (.func 175) [] []) [mb,v64] lM) fun mH vN=>
 Nq mH vN) (fun lO wk=>
 G v53 false (fun Lz=>
 B1 (fW .not lO) fun v72=>
 Lz v72 wk) (fun jO yZ=>
 B1 (pk v53 (.bool true) jO) fun v75=>
 G v75 false (fun k76=>
 B1 (nq 2 1 (.ptr i43 0) (.int .i64 0)) fun wC=>
 k76 wC yZ) (fun tw hZ=>
 G v75 false (fun P4=>
 B1 (ld tw hZ) fun rW=>
 P4 rW hZ) (fun oq sW=>
 G v75 false (fun Po=>
 B1 (nq 2 1 (.ptr i43 0) (.int .i64 1)) fun v85=>
 Po v85 sW) (fun wB wW=>
 G v75 false (fun k88=>
 B1 (ld wB wW) fun xP=>
 k88 xP wW) (fun sf yi=>
 G v75 false (fun k92=>
 B1 (bZ oq sf) fun v93=>
 k92 v93 yi) (fun xY qo=>
 B1 (pk v75 (.bool true) xY) fun py=>
 G py false (fun k97=>
 k97 dc qo) (fun KP DX=>
 G py false (fun agc=>
 B1 (aC 2 (.ptr i43 0) DX) fun wI=>
 agc wI DX) (fun xW lh=>
 G py false (fun NR=>
 B1 (qb P 248 KP xW false lh) fun v105=>
 NR v105 lh) (fun FG GN=>
 B1 (pk py (.bool true) FG) fun xy=>
 xv cH dc (.ptr i43 0) dh bQ bT xy GN) lh) DX) qo) yi) wW) sW) hZ) yZ) wk) lM) iL) nB) sC) (fun jZ uu ue zL zu Bn GQ AH=>
 CD GQ (
 some ((.bool false),AH)) (
 Mx jZ uu ue zL zu Bn AH))) (fun wY vF uz su rP uN CH=>
 B1 (aC 2 uz CH) fun v124=>
 B1 (nu P 248 vF v124 (.bool true) CH) fun Rc=>
 qD wY vF su rP uN Rc)) (fun ja iT jD kI lP Cd=>
 B1 (bW lP (.int .i64 1)) fun Rl=>
 gw ja iT jD kI Rl Cd)) (
 da  eT)
noncomputable def HI (J:JT) (G:GT) (cf:CF) (da:K.Fn 0):K.Fn 5:=dT P an J G cf 155 [1,1,1,0,1,0,0] [1,3,16,17,18] (fun q t H=>match Nat.beq q 0 with | true=>app 0 da (ax [] t) H | false=>(fun _ _ _=>none) q t H)
theorem amG (J:JT) (G:GT) (cf:CF) (da:K.Fn 0) (gw:K.Fn 5) (cH dc dh bQ bT:AV) (eT:Hp):kT P an J G cf 155 [1,1,1,0,1,0,0] [1,3,16,17,18] (fun q t H=>match Nat.beq q 0 with | true=>app 0 da (ax [] t) H | false=>(fun _ _ _=>none) q t H) gw [cH,dc,dh,bQ,bT] eT=JA J G cf da gw cH dc dh bQ bT eT:=by kernel_rfl
theorem Sq (cf:CF) (da:K.Fn 0) (cH dc dh bQ bT:AV) (eT:Hp):HI JN GO cf da cH dc dh bQ bT eT=JA JN GO cf da (HI JN GO cf da) cH dc dh bQ bT eT:=aa0 (b:=app 5 (HI JN GO cf da) [cH,dc,dh,bQ,bT] eT) (by kernel_rfl) ((ey cf _ _ _ _ [cH,dc,dh,bQ,bT] rfl eT).trans (amG JN GO cf da _ cH dc dh bQ bT eT))
noncomputable def MR (J:JT) (G:GT) (cf:CF) (a0:AV) (H:Hp):R:=
 BN (bx 201 a0 H) fun i0 h1=>
 J 1 (fun j2=>
 J 2 (fun j3=>
 B1 (fa 0 (.ptr i0 0)) fun v4=>
 B1 (ld v4 h1) fun v5=>
 B1 (cJ v5 (.int .i64 0)) fun v6=>
 G v6 false (fun k7=>
 B1 (fa 0 (.ptr i0 0)) fun v8=>
 k7 v8 h1) (fun v9 cN=>
 G v6 false (fun Eb=>
 B1 (ld v9 cN) fun v12=>
 Eb v12 cN) (fun dN jL=>
 G v6 false (fun Ad=>
 B1 (lQ dN (.int .i64 16)) fun dH=>
 Ad dH jL) (fun fx gW=>
 B1 (pk v6 (.bool true) fx) fun eN=>
 j3 (.ptr i0 0) eN gW) jL) cN) h1) (fun bB aI jc=>
 CD aI (
 some ((.bool false),jc)) (
 j2 bB jc))) (fun bp iZ=>
 BN (xi iZ) fun i25 er=>
 J 0 (fun gH=>
 B1 (fa 1 bp) fun v28=>
 B1 (ld v28 er) fun v29=>
 B1 (aV v29) fun v30=>
 J 0 (fun da=>
 HI J G cf da bp (.map i25) v29 v30 (.int .i64 0) er) (fun  mM=>
 gH  mM)) (fun  BS=>
 some ((.bool true),BS)))
theorem aiV (J:JT) (G:GT) (cf:CF) (a0:AV) (H:Hp):fG P J G aU an cf 155 [a0] H=MR J G cf a0 H:=by kernel_rfl
theorem abI {a0:AV} {H:Hp} {r:AV × Hp} (h:MR JN GO cK a0 H=some r):cK (.func (.func 155) [] []) [a0] H=some r:=aT (first:=[]) (cap:=[]) ((aiV JN GO _ a0 H).trans h)
noncomputable def Yc (J:JT) (G:GT) (cf:CF) (a0 a1:AV) (H:Hp):R:=
 BN (bx 201 a0 H) fun i0 h1=>
 B1 (lY a1 (.int .i64 0)) fun v2=>
 G v2 true (fun k3=>
 k3 a1 h1) (fun v4 h5=>
 G v2 true (fun k6=>
 B1 (fa 0 (.ptr i0 0)) fun v7=>
 k6 v7 h5) (fun v8 h9=>
 G v2 true (fun uw=>
 B1 (ld v8 h9) fun v11=>
 uw v11 h9) (fun v12 eZ=>
 G v2 true (fun Aq=>
 B1 (cJ v4 v12) fun ei=>
 Aq ei eZ) (fun dH dQ=>
 B1 (pk v2 dH (.bool false)) fun dA=>
 some (dA,dQ)) eZ) h9) h5) h1
theorem ank {a0 a1:AV} {H:Hp} {r:AV × Hp} (h:Yc JN GO cK a0 a1 H=some r):cK (.func (.func 175) [] []) [a0,a1] H=some r:=aT (first:=[]) (cap:=[]) (aa0 (by kernel_rfl) h)
noncomputable def Bs (J:JT) (G:GT) (cf:CF) (aX:K.Fn 1) (mE:K.Fn 6) (bA bu bF bw aZ bh:AV) (gW:Hp):R:=
 B1 (cJ bh aZ) fun eN=>
 CD eN (
 J 6 (fun aG=>
 J 6 (fun fe=>
 B1 (ia 2 bw bh) fun v22=>
 B1 (aC 2 v22 gW) fun v23=>
 BN (aL gW [(.int .i64 0),(.int .i64 0)] 231 0) fun i24 dU=>
 B1 (st 2 (.ptr i24 0) v23 dU) fun er=>
 J 8 (fun gH=>
 B1 (nq 2 1 (.ptr i24 0) bu) fun v28=>
 B1 (ld v28 er) fun v29=>
 B1 (bZ v29 bA) fun v30=>
 gH bA bu bF (.ptr i24 0) bw aZ bh v30 er) (fun bO eB cH dc dh bQ bT bV jj=>
 CD bV (
 B1 (nG (.int .i64 1) eB) fun v40=>
 B1 (nq 2 1 dc v40) fun v41=>
 B1 (ld v41 jj) fun eX=>
 B1 (fl [(.int .i64 0)] [(0,1,eX)]) fun l43=>
 BN (aL jj l43 3 0) fun i44 jX=>
 B2 (gC 3 1 [(.int .i64 0)] false cH (.slice i44 0 1 1 true 1) jX) fun v46 kB=>
 fe bO eB v46 dh bQ bT kB) (
 fe bO eB cH dh bQ bT jj))) (fun gZ jz kH jM fO ji xD=>
 aG gZ jz kH jM fO ji xD)) (fun fH df dD dJ db eD iL=>
 B1 (bW eD (.int .i64 1)) fun jd=>
 mE fH df dD dJ db jd iL)) (
 aX bF gW)
noncomputable def GA (J:JT) (G:GT) (cf:CF) (aX:K.Fn 1):K.Fn 6:=dT P an J G cf 176 [1,1,1,0,1,0,0] [1,2,7,14,15,16] (fun q t H=>match Nat.beq q 0 with | true=>app 1 aX (ax [7] t) H | false=>(fun _ _ _=>none) q t H)
theorem Og (cf:CF) (aX:K.Fn 1) (bA bu bF bw aZ bh:AV) (gW:Hp):GA JN GO cf aX bA bu bF bw aZ bh gW=Bs JN GO cf aX (GA JN GO cf aX) bA bu bF bw aZ bh gW:=aa0 (b:=app 6 (GA JN GO cf aX) [bA,bu,bF,bw,aZ,bh] gW) (by kernel_rfl) ((ey cf 176 [1,1,1,0,1,0,0] [1,2,7,14,15,16] _ [bA,bu,bF,bw,aZ,bh] rfl gW).trans (by kernel_rfl))
noncomputable def WQ (J:JT) (G:GT) (cf:CF) (a0 a1 a2:AV) (H:Hp):R:=
 BN (bx 201 a0 H) fun i0 h1=>
 B1 (aC 2 (.ptr i0 0) h1) fun v2=>
 B2 (cf (.func (.func 155) [] []) [v2] h1) fun v3 h4=>
 B1 (fW .not v3) fun v5=>
 CD v5 (
 some (.ah,h4)) (
 J 1 (fun j6=>
 B1 (fa 1 (.ptr i0 0)) fun v7=>
 B1 (ld v7 h4) fun v8=>
 B1 (aV v8) fun v9=>
 J 1 (fun aX=>
 GA J G cf aX a1 a2 .ah v8 v9 (.int .i64 0) h4) (fun gx oD=>
 j6 gx oD)) (fun fY fI=>
 B2 (cf (.func (.func 192) [] []) [fY] fI) fun mH vN=>
 some (fY,vN)))
theorem amD {a0 a1 a2:AV} {H:Hp} {r:AV × Hp} (h:WQ JN GO cK a0 a1 a2 H=some r):cK (.func (.func 176) [] []) [a0,a1,a2] H=some r:=aT (first:=[]) (cap:=[]) (aa0 (by kernel_rfl) h)
noncomputable def VF (J:JT) (G:GT) (cf:CF) (a0 a1:AV) (H:Hp):R:=
 BN (bx 201 a0 H) fun i0 h1=>
 B1 (aC 2 (.ptr i0 0) h1) fun v2=>
 B2 (cf (.func (.func 176) [] []) [v2,a1,(.int .i64 0)] h1) fun v3 h4=>
 some (v3,h4)
theorem alw {a0 a1:AV} {H:Hp} {r:AV × Hp} (h:VF JN GO cK a0 a1 H=some r):cK (.func (.func 157) [] []) [a0,a1] H=some r:=aT (first:=[]) (cap:=[]) (aa0 (by kernel_rfl) h)
noncomputable def HT (J:JT) (G:GT) (cf:CF) (aX:K.Fn 1) (aG:K.Fn 4) (ef:K.Fn 4) (dI:K.Fn 7) (dW:K.Fn 7) (q8:K.Fn 10) (df dD dJ db eD dV iX gx fL fY:AV) (fI:Hp):R:=
 B1 (cJ fY fL) fun mH=>
 CD mH (
 J 10 (fun Ek=>
 J 10 (fun BM=>
 B1 (ia 1 gx fY) fun v70=>
 B1 (ld v70 fI) fun ng=>
 J 12 (fun tJ=>
 B1 (ia 1 dD ng) fun jO=>
 B1 (ld jO fI) fun jq=>
 B1 (bZ jq (.int .i64 0)) fun v75=>
 tJ df dD dJ db ng eD dV iX gx fL fY v75 fI) (fun gM ft ff pn nK rf uH mT pC pH pF sr yX=>
 CD sr (
 J 11 (fun j89=>
 B1 (ia 1 ft nK) fun sf=>
 B1 (st 1 sf ff yX) fun yi=>
 j89 gM ft ff pn nK rf uH mT pC pH pF yi) (fun nI qu oK pA qN rZ vH nP tv ku lW lh=>
 B1 (fl [(.int .i64 0)] [(0,1,qN)]) fun Oi=>
 BN (aL lh Oi 3 0) fun i105 qP=>
 B2 (gC 3 1 [(.int .i64 0)] false pA (.slice i105 0 1 1 true 1) qP) fun v107 amn=>
 BM nI qu oK v107 rZ vH nP tv ku lW amn)) (
 BM gM ft ff pn rf uH mT pC pH pF yX))) (fun jZ uu ue zL zu Bn GQ AK wY vF Mo=>
 Ek jZ uu ue zL zu Bn GQ AK wY vF Mo)) (fun su rP uN wD Ap El ja iT jD kI Py=>
 B1 (bW kI (.int .i64 1)) fun v131=>
 q8 su rP uN wD Ap El ja iT jD v131 Py)) (
 dW df dD dJ db eD dV iX fI)
noncomputable def ET (J:JT) (G:GT) (cf:CF) (aX:K.Fn 1) (aG:K.Fn 4) (ef:K.Fn 4) (dI:K.Fn 7) (dW:K.Fn 7):K.Fn 10:=dT P an J G cf 156 [1,1,1,0,1,0,0,1,0,0,1,0,1,0,0,1,1,0,0,1,1,0,0] [2,5,7,8,23,24,25,31,32,33] (fun q t H=>match Nat.beq q 4 with | true=>app 7 dW (ax [2,5,7,8,23,24,25] t) H | false=>(fun q t H=>match Nat.beq q 3 with | true=>app 7 dI (ax [2,5,7,8,23,24,25] t) H | false=>(fun q t H=>match Nat.beq q 2 with | true=>app 4 ef (ax [2,5,7,8] t) H | false=>(fun q t H=>match Nat.beq q 1 with | true=>app 4 aG (ax [2,5,6,7] t) H | false=>(fun q t H=>match Nat.beq q 0 with | true=>app 1 aX (ax [5] t) H | false=>(fun _ _ _=>none) q t H) q t H) q t H) q t H) q t H)
theorem ahF (J:JT) (G:GT) (cf:CF) (aX:K.Fn 1) (aG:K.Fn 4) (ef:K.Fn 4) (dI:K.Fn 7) (dW:K.Fn 7) (q8:K.Fn 10) (df dD dJ db eD dV iX gx fL fY:AV) (fI:Hp):kT P an J G cf 156 [1,1,1,0,1,0,0,1,0,0,1,0,1,0,0,1,1,0,0,1,1,0,0] [2,5,7,8,23,24,25,31,32,33] (fun q t H=>match Nat.beq q 4 with | true=>app 7 dW (ax [2,5,7,8,23,24,25] t) H | false=>(fun q t H=>match Nat.beq q 3 with | true=>app 7 dI (ax [2,5,7,8,23,24,25] t) H | false=>(fun q t H=>match Nat.beq q 2 with | true=>app 4 ef (ax [2,5,7,8] t) H | false=>(fun q t H=>match Nat.beq q 1 with | true=>app 4 aG (ax [2,5,6,7] t) H | false=>(fun q t H=>match Nat.beq q 0 with | true=>app 1 aX (ax [5] t) H | false=>(fun _ _ _=>none) q t H) q t H) q t H) q t H) q t H) q8 [df,dD,dJ,db,eD,dV,iX,gx,fL,fY] fI=HT J G cf aX aG ef dI dW q8 df dD dJ db eD dV iX gx fL fY fI:=by kernel_rfl
theorem QL (cf:CF) (aX:K.Fn 1) (aG:K.Fn 4) (ef:K.Fn 4) (dI:K.Fn 7) (dW:K.Fn 7) (df dD dJ db eD dV iX gx fL fY:AV) (fI:Hp):ET JN GO cf aX aG ef dI dW df dD dJ db eD dV iX gx fL fY fI=HT JN GO cf aX aG ef dI dW (ET JN GO cf aX aG ef dI dW) df dD dJ db eD dV iX gx fL fY fI:=aa0 (b:=app 10 (ET JN GO cf aX aG ef dI dW) [df,dD,dJ,db,eD,dV,iX,gx,fL,fY] fI) (by kernel_rfl) ((ey cf _ _ _ _ [df,dD,dJ,db,eD,dV,iX,gx,fL,fY] rfl fI).trans (ahF JN GO cf aX aG ef dI dW _ df dD dJ db eD dV iX gx fL fY fI))
noncomputable def MG (J:JT) (G:GT) (cf:CF) (aX:K.Fn 1) (aG:K.Fn 4) (ef:K.Fn 4) (DQ:K.Fn 7) (bP cO cB dY cP bY bO:AV) (cU:Hp):R:=
 B1 (cJ bO bY) fun eO=>
 CD eO (
 J 7 (fun kN=>
 J 7 (fun dI=>
 B1 (ia 1 cP bO) fun v36=>
 B1 (ld v36 cU) fun v37=>
 J 10 (fun Oh=>
 B1 (aC 2 bP cU) fun eQ=>
 B2 (cf (.func (.func 157) [] []) [eQ,v37] cU) fun v40 fP=>
 B1 (aV v40) fun eX=>
 Oh bP cO cB dY cP bY bO v40 eX (.int .i64 0) fP) (fun dX gD fq fK gO gZ jz kH jM fO fE=>
 J 7 (fun dW=>
 ET J G cf aX aG ef dI dW dX gD fq fK gO gZ jz kH jM fO fE) (fun lJ uI uU qd qK vg Cx yg=>
 dI lJ uI uU qd qK vg Cx yg))) (fun Nc EF Pm Pu Fk QQ IW LH=>
 kN Nc EF Pm Pu Fk QQ IW LH)) (fun Nz GK Gk GJ FZ DN Mt agj=>
 B1 (bW Mt (.int .i64 1)) fun Mu=>
 DQ Nz GK Gk GJ FZ DN Mu agj)) (
 ef bP cO cB dY cU)
noncomputable def HM (J:JT) (G:GT) (cf:CF) (aX:K.Fn 1) (aG:K.Fn 4) (ef:K.Fn 4):K.Fn 7:=dT P an J G cf 156 [1,1,1,0,1,0,0,1,0,0,1,0,1,0,0] [2,5,7,8,23,24,25] (fun q t H=>match Nat.beq q 2 with | true=>app 4 ef (ax [2,5,7,8] t) H | false=>(fun q t H=>match Nat.beq q 1 with | true=>app 4 aG (ax [2,5,6,7] t) H | false=>(fun q t H=>match Nat.beq q 0 with | true=>app 1 aX (ax [5] t) H | false=>(fun _ _ _=>none) q t H) q t H) q t H)
theorem U2 (cf:CF) (aX:K.Fn 1) (aG:K.Fn 4) (ef:K.Fn 4) (bP cO cB dY cP bY bO:AV) (cU:Hp):HM JN GO cf aX aG ef bP cO cB dY cP bY bO cU=MG JN GO cf aX aG ef (HM JN GO cf aX aG ef) bP cO cB dY cP bY bO cU:=aa0 (b:=app 7 (HM JN GO cf aX aG ef) [bP,cO,cB,dY,cP,bY,bO] cU) (by kernel_rfl) ((ey cf 156 [1,1,1,0,1,0,0,1,0,0,1,0,1,0,0] [2,5,7,8,23,24,25] _ [bP,cO,cB,dY,cP,bY,bO] rfl cU).trans (by kernel_rfl))
noncomputable def Pf (J:JT) (G:GT) (cf:CF) (aX:K.Fn 1) (mE:K.Fn 4) (bA bu bF bw:AV) (bM:Hp):R:=
 B1 (aV bF) fun fx=>
 B1 (lQ fx (.int .i64 0)) fun dA=>
 CD dA (
 J 4 (fun cG=>
 J 4 (fun aG=>
 J 4 (fun fe=>
 B1 (aV bF) fun v22=>
 J 4 (fun ef=>
 HM J G cf aX aG ef bA bu bw .ah bF v22 (.int .i64 0) bM) (fun Rm M3 ald Hg ac6=>
 fe Rm M3 ald Hg ac6)) (fun En Hy Hf NV ahL=>
 aG En Hy NV Hf ahL)) (fun Hk EL HU Mw LY=>
 cG Hk EL HU Mw LY)) (fun Dz yr Cz AN M7=>
 B1 (bW AN (.int .i64 1)) fun Qn=>
 mE Dz yr Cz Qn M7)) (
 aX bu bM)
noncomputable def BA (J:JT) (G:GT) (cf:CF) (aX:K.Fn 1):K.Fn 4:=dT P an J G cf 156 [1,1,1,0,1,0,0] [2,5,6,7] (fun q t H=>match Nat.beq q 0 with | true=>app 1 aX (ax [5] t) H | false=>(fun _ _ _=>none) q t H)
theorem Y6 (cf:CF) (aX:K.Fn 1) (bA bu bF bw:AV) (bM:Hp):BA JN GO cf aX bA bu bF bw bM=Pf JN GO cf aX (BA JN GO cf aX) bA bu bF bw bM:=aa0 (b:=app 4 (BA JN GO cf aX) [bA,bu,bF,bw] bM) (by kernel_rfl) ((ey cf 156 [1,1,1,0,1,0,0] [2,5,6,7] _ [bA,bu,bF,bw] rfl bM).trans (by kernel_rfl))
noncomputable def Tp (J:JT) (G:GT) (cf:CF) (a0 a1:AV) (H:Hp):R:=
 BN (bx 201 a0 H) fun i0 h1=>
 B1 (fa 0 (.ptr i0 0)) fun v2=>
 B1 (ld v2 h1) fun v3=>
 B2 (xc [(.int .i64 0)] 3 1 v3 v3 h1) fun v4 h5=>
 B1 (fl [(.int .i64 0)] [(0,1,a1)]) fun l6=>
 BN (aL h5 l6 3 0) fun i7 h8=>
 J 1 (fun j9=>
 J 1 (fun aX=>
 BA J G cf aX (.ptr i0 0) v4 (.slice i7 0 1 1 true 1) (.int .i64 1) h8) (fun Od afw=>
 j9 Od afw)) (fun OG abj=>
 some (OG,abj))
theorem akI {a0 a1:AV} {H:Hp} {r:AV × Hp} (h:Tp JN GO cK a0 a1 H=some r):cK (.func (.func 156) [] []) [a0,a1] H=some r:=aT (first:=[]) (cap:=[]) (aa0 (by kernel_rfl) h)
noncomputable def zC (J:JT) (G:GT) (cf:CF) (j9:K.Fn 3) (aX:K.Fn 5) (bL bA bu bF bw:AV) (bM:Hp):R:=
 B1 (cJ bw bF) fun fx=>
 CD fx (
 J 5 (fun AA=>
 J 5 (fun cG=>
 J 7 (fun aG=>
 B1 (aC 2 bL bM) fun v21=>
 B2 (cf (.func (.func 156) [] []) [v21,bw] bM) fun v22 br=>
 B1 (ia 1 v22 bw) fun v24=>
 B1 (ld v24 br) fun v25=>
 aG bL bA bu bw v25 bF bw br) (fun cO cB dY cP bY bO eB pg=>
 J 8 (fun kN=>
 B1 (lQ bY (.int .i64 0)) fun v35=>
 G v35 true (fun k36=>
 k36 dY pg) (fun v37 eT=>
 G v35 true (fun Az=>
 B1 (bZ v37 (.int .i64 0)) fun v40=>
 Az v40 eT) (fun v41 ez=>
 G v35 true (fun A8=>
 A8 v41 ez) (fun v44 jX=>
 G v44 false (fun MT=>
 MT bY jX) (fun ma rU=>
 G v44 false (fun L9=>
 L9 dY rU) (fun jw mV=>
 G v44 false (fun GY=>
 B1 (cJ ma jw) fun v53=>
 GY v53 mV) (fun iA uL=>
 G v35 true (fun Ar=>
 B1 (pk v44 (.bool true) iA) fun v57=>
 Ar v57 uL) (fun kL wo=>
 B1 (pk v35 kL (.bool false)) fun gL=>
 kN cO cB dY cP bY bO eB gL wo) uL) mV) rU) jX) ez) eT) pg) (fun dV iX gx fL fY qE jI jY yj=>
 CD jY (
 cG dV fL fY qE jI yj) (
 cG dV iX gx qE jI yj)))) (fun kV pT uh iF iM oJ=>
 AA kV pT uh iF iM oJ)) (fun gM ft ff pn nK sU=>
 B1 (bW nK (.int .i64 1)) fun oq=>
 aX gM ft ff pn oq sU)) (
 j9 bL bA bu bM)
noncomputable def EO (J:JT) (G:GT) (cf:CF) (j9:K.Fn 3):K.Fn 5:=dT P an J G cf 126 [1,1,1,0,1,0,0] [1,3,4,15,16] (fun q t H=>match Nat.beq q 0 with | true=>app 3 j9 (ax [1,3,4] t) H | false=>(fun _ _ _=>none) q t H)
theorem alO (J:JT) (G:GT) (cf:CF) (j9:K.Fn 3) (aX:K.Fn 5) (bL bA bu bF bw:AV) (bM:Hp):kT P an J G cf 126 [1,1,1,0,1,0,0] [1,3,4,15,16] (fun q t H=>match Nat.beq q 0 with | true=>app 3 j9 (ax [1,3,4] t) H | false=>(fun _ _ _=>none) q t H) aX [bL,bA,bu,bF,bw] bM=zC J G cf j9 aX bL bA bu bF bw bM:=by kernel_rfl
theorem Gm (cf:CF) (j9:K.Fn 3) (bL bA bu bF bw:AV) (bM:Hp):EO JN GO cf j9 bL bA bu bF bw bM=zC JN GO cf j9 (EO JN GO cf j9) bL bA bu bF bw bM:=aa0 (b:=app 5 (EO JN GO cf j9) [bL,bA,bu,bF,bw] bM) (by kernel_rfl) ((ey cf _ _ _ _ [bL,bA,bu,bF,bw] rfl bM).trans (alO JN GO cf j9 _ bL bA bu bF bw bM))
noncomputable def CS (J:JT) (G:GT) (cf:CF) (iQ:K.Fn 1) (mu:K.Fn 4) (lA:K.Fn 4) (KJ:K.Fn 7) (ja iT jD kI lP oX lJ:AV) (mM:Hp):R:=
 B1 (cJ lJ oX) fun Ot=>
 CD Ot (
 J 7 (fun aez=>
 B1 (ia 1 lP lJ) fun agO=>
 B1 (ld agO mM) fun Oz=>
 J 9 (fun LW=>
 B1 (gy Oz iT) fun v139=>
 G v139 true (fun ag3=>
 B1 (aC 2 ja mM) fun v141=>
 ag3 v141 mM) (fun GM JO=>
 G v139 true (fun ahH=>
 ahH Oz JO) (fun v145 yy=>
 G v139 true (fun akO=>
 B2 (cf (.func (.func 156) [] []) [GM,v145] yy) fun v148 aeU=>
 akO v148 aeU) (fun ah8 Zl=>
 G v139 true (fun akn=>
 akn iT Zl) (fun ag1 Iw=>
 G v139 true (fun ac4=>
 B1 (ia 1 ah8 ag1) fun Mu=>
 ac4 Mu Iw) (fun v157 Oo=>
 G v139 true (fun af3=>
 B1 (ld v157 Oo) fun v160=>
 af3 v160 Oo) (fun amU Xs=>
 G v139 true (fun abK=>
 abK kI Xs) (fun v164 La=>
 G v139 true (fun ad0=>
 B1 (bZ amU v164) fun v167=>
 ad0 v167 La) (fun v168 abU=>
 B1 (pk v139 v168 (.bool false)) fun amy=>
 LW ja iT jD kI Oz lP oX lJ amy abU) La) Xs) Oo) Iw) Zl) yy) JO) mM) (fun XA Dz yr Cz AN Mb QT Od Pg ZM=>
 CD Pg (
 B1 (fl [(.int .i64 0)] [(0,1,AN)]) fun adi=>
 BN (aL ZM adi 3 0) fun i182 aei=>
 B2 (gC 3 1 [(.int .i64 0)] false yr (.slice i182 0 1 1 true 1) aei) fun adI NP=>
 lA XA Dz adI Cz NP) (
 aez XA Dz yr Cz Mb QT Od ZM))) (fun N4 LA MI LU OZ Nt afV akJ=>
 B1 (bW afV (.int .i64 1)) fun v194=>
 KJ N4 LA MI LU OZ Nt v194 akJ)) (
 lA ja iT jD kI mM)
noncomputable def Fj (J:JT) (G:GT) (cf:CF) (iQ:K.Fn 1) (mu:K.Fn 4) (lA:K.Fn 4):K.Fn 7:=dT P an J G cf 126 [1,1,1,1,1,1,0,1,0,0,1,0,0,1,0,0] [1,3,7,8,56,57,58] (fun q t H=>match Nat.beq q 4 with | true=>app 4 lA (ax [1,3,7,8] t) H | false=>(fun q t H=>match Nat.beq q 3 with | true=>app 4 mu (ax [1,3,7,8] t) H | false=>(fun q t H=>match Nat.beq q 2 with | true=>app 1 iQ (ax [7] t) H | false=>(fun _ _ _=>none) q t H) q t H) q t H)
theorem anp (J:JT) (G:GT) (cf:CF) (iQ:K.Fn 1) (mu:K.Fn 4) (lA:K.Fn 4) (KJ:K.Fn 7) (ja iT jD kI lP oX lJ:AV) (mM:Hp):kT P an J G cf 126 [1,1,1,1,1,1,0,1,0,0,1,0,0,1,0,0] [1,3,7,8,56,57,58] (fun q t H=>match Nat.beq q 4 with | true=>app 4 lA (ax [1,3,7,8] t) H | false=>(fun q t H=>match Nat.beq q 3 with | true=>app 4 mu (ax [1,3,7,8] t) H | false=>(fun q t H=>match Nat.beq q 2 with | true=>app 1 iQ (ax [7] t) H | false=>(fun _ _ _=>none) q t H) q t H) q t H) KJ [ja,iT,jD,kI,lP,oX,lJ] mM=CS J G cf iQ mu lA KJ ja iT jD kI lP oX lJ mM:=by kernel_rfl
theorem Ko (cf:CF) (iQ:K.Fn 1) (mu:K.Fn 4) (lA:K.Fn 4) (ja iT jD kI lP oX lJ:AV) (mM:Hp):Fj JN GO cf iQ mu lA ja iT jD kI lP oX lJ mM=CS JN GO cf iQ mu lA (Fj JN GO cf iQ mu lA) ja iT jD kI lP oX lJ mM:=aa0 (b:=app 7 (Fj JN GO cf iQ mu lA) [ja,iT,jD,kI,lP,oX,lJ] mM) (by kernel_rfl) ((ey cf _ _ _ _ [ja,iT,jD,kI,lP,oX,lJ] rfl mM).trans (anp JN GO cf iQ mu lA _ ja iT jD kI lP oX lJ mM))
noncomputable def QM (J:JT) (G:GT) (cf:CF) (iQ:K.Fn 1) (LB:K.Fn 4) (nP tv ku lW:AV) (lh:Hp):R:=
 B1 (lQ lW (.int .i64 0)) fun xq=>
 CD xq (
 J 4 (fun ad5=>
 J 4 (fun mu=>
 J 7 (fun ahT=>
 B1 (aC 2 nP lh) fun xy=>
 B1 (aV ku) fun v109=>
 B1 (nG v109 (.int .i64 1)) fun Pq=>
 B1 (ia 1 ku Pq) fun Bo=>
 B1 (ld Bo lh) fun xM=>
 B2 (cf (.func (.func 157) [] []) [xy,xM] lh) fun vM adg=>
 B1 (aV vM) fun u7=>
 ahT nP tv ku lW vM u7 (.int .i64 0) adg) (fun AK wY vF uz su rP uN CH=>
 J 4 (fun lA=>
 Fj J G cf iQ mu lA AK wY vF uz su rP uN CH) (fun Q2 aeN Kw QO Lc=>
 mu Q2 aeN Kw QO Lc))) (fun ab8 aeH afU alR agk=>
 ad5 ab8 aeH afU alR agk)) (fun aeb ac0 abW aho ahX=>
 B1 (nG aho (.int .i64 1)) fun v210=>
 LB aeb ac0 abW v210 ahX)) (
 iQ ku lh)
noncomputable def FX (J:JT) (G:GT) (cf:CF) (iQ:K.Fn 1):K.Fn 4:=dT P an J G cf 126 [1,1,1,1,1,1,0,1,0,0] [1,3,7,8] (fun q t H=>match Nat.beq q 2 with | true=>app 1 iQ (ax [7] t) H | false=>(fun _ _ _=>none) q t H)
theorem ZK (cf:CF) (iQ:K.Fn 1) (nP tv ku lW:AV) (lh:Hp):FX JN GO cf iQ nP tv ku lW lh=QM JN GO cf iQ (FX JN GO cf iQ) nP tv ku lW lh:=aa0 (b:=app 4 (FX JN GO cf iQ) [nP,tv,ku,lW] lh) (by kernel_rfl) ((ey cf 126 [1,1,1,1,1,1,0,1,0,0] [1,3,7,8] _ [nP,tv,ku,lW] rfl lh).trans (by kernel_rfl))
noncomputable def Lf (J:JT) (G:GT) (cf:CF) (a0:AV) (H:Hp):R:=
 BN (bx 201 a0 H) fun i0 h1=>
 B1 (aC 2 (.ptr i0 0) h1) fun v2=>
 B2 (cf (.func (.func 155) [] []) [v2] h1) fun v3 h4=>
 B1 (fW .not v3) fun v5=>
 CD v5 (
 some (.ah,h4)) (
 J 3 (fun j6=>
 B1 (fa 0 (.ptr i0 0)) fun v7=>
 B1 (ld v7 h4) fun v8=>
 J 3 (fun j9=>
 EO J G cf j9 (.ptr i0 0) (.int .i64 0) (.int .i64 0) v8 (.int .i64 0) h4) (fun mT pC pH Ae=>
 j6 mT pC pH Ae)) (fun sr nj yd yN=>
 B1 (bZ yd (.int .i64 0)) fun v91=>
 CD v91 (
 some (.ah,yN)) (
 B1 (fl [(.int .i64 0)] [(0,1,nj)]) fun l92=>
 BN (aL yN l92 3 0) fun i93 Pe=>
 J 1 (fun j95=>
 B1 (nG yd (.int .i64 1)) fun py=>
 J 1 (fun iQ=>
 FX J G cf iQ sr nj (.slice i93 0 1 1 true 1) py Pe) (fun anA alb=>
 j95 anA alb)) (fun al7 akP=>
 some (al7,akP)))))
theorem adj (J:JT) (G:GT) (cf:CF) (a0:AV) (H:Hp):fG P J G aU an cf 126 [a0] H=Lf J G cf a0 H:=by kernel_rfl
theorem aa6 {a0:AV} {H:Hp} {r:AV × Hp} (h:Lf JN GO cK a0 H=some r):cK (.func (.func 126) [] []) [a0] H=some r:=aT (first:=[]) (cap:=[]) ((adj JN GO _ a0 H).trans h)
noncomputable def Xo (J:JT) (G:GT) (cf:CF) (a0:AV) (H:Hp):R:=
 B1 (rK a0 (.str [])) fun v0=>
 G v0 true (fun k1=>
 k1 a0 H) (fun v2 h3=>
 G v0 true (fun k4=>
 B1 (lens v2) fun v5=>
 k4 v5 h3) (fun v6 h7=>
 G v0 true (fun k8=>
 B1 (oN v6 (.int .i64 16)) fun v9=>
 k8 v9 h7) (fun v10 fM=>
 B1 (pk v0 v10 (.bool false)) fun v12=>
 G v12 true (fun ED=>
 ED a0 fM) (fun cL gV=>
 G v12 true (fun Rf=>
 B2 (cf (.func (.func 91) [] []) [cL,(.str [97,98,99,100,101,102,103,104,105,106,107,108,109,110,111,112,113,114,115,116,117,118,119,120,121,122,48,49,50,51,52,53,54,55,56,57])] gV) fun fx gW=>
 Rf fx gW) (fun eN cx=>
 G v12 true (fun Hc=>
 B1 (seq eN (.str [])) fun v22=>
 Hc v22 cx) (fun v23 iZ=>
 B1 (pk v12 v23 (.bool false)) fun v25=>
 some (v25,iZ)) cx) gV) fM) h7) h3) H
theorem alE {a0:AV} {H:Hp} {r:AV × Hp} (h:Xo JN GO cK a0 H=some r):cK (.func (.func 54) [] []) [a0] H=some r:=aT (first:=[]) (cap:=[]) (aa0 (by kernel_rfl) h)
noncomputable def CX (J:JT) (G:GT) (cf:CF) (a0:AV) (H:Hp):R:=
 J 1 (fun j0=>
 B1 (lens a0) fun v1=>
 B1 (lQ v1 (.int .i64 4)) fun v2=>
 CD v2 (
 some (.tuple [(.int .i64 0),(.bool false)],H)) (
 j0 a0 H)) (fun x3 h4=>
 J 3 (fun j5=>
 B2 (cf (.func (.func 173) [] []) [x3] h4) fun v6 h7=>
 B1 (ex 0 v6) fun v8=>
 B1 (ex 1 v6) fun v9=>
 j5 x3 v8 v9 h7) (fun cq bL bA eZ=>
 sS (gA P .eql 183 true bA .nilIface) <| B1 (eS P .eql 183 bA .nilIface eZ) fun cL=>
 G cL true (fun Ad=>
 Ad bL eZ) (fun dH dQ=>
 G cL true (fun Hu=>
 B2 (cf (.func (.func 84) [] []) [dH] dQ) fun eN cx=>
 Hu eN cx) (fun v21 jc=>
 G cL true (fun Rh=>
 Rh cq jc) (fun v24 dU=>
 G cL true (fun F0=>
 B1 (seq v21 v24) fun v27=>
 F0 v27 dU) (fun v28 dL=>
 B1 (pk cL v28 (.bool false)) fun v30=>
 G v30 true (fun uR=>
 uR bL dL) (fun v32 pg=>
 G v30 true (fun k34=>
 B1 (lY v32 (.int .i64 0)) fun v35=>
 k34 v35 pg) (fun v36 iB=>
 B1 (pk v30 v36 (.bool false)) fun lf=>
 some (.tuple [bL,lf],iB)) pg) dL) dU) jc) dQ) eZ))
theorem EP {a0:AV} {H:Hp} {r:AV × Hp} (h:CX JN GO cK a0 H=some r):cK (.func (.func 153) [] []) [a0] H=some r:=aT (first:=[]) (cap:=[]) (aa0 (by kernel_rfl) h)
noncomputable def Dc (J:JT) (G:GT) (cf:CF) (eU:K.Fn 1) (cG:K.Fn 0) (aG:K.Fn 5) (aI aE bp bI bP:AV) (er:Hp):R:=
 B1 (cJ bP bI) fun v27=>
 CD v27 (
 J 5 (fun iC=>
 B1 (ia 1 bp bP) fun v29=>
 B1 (ld v29 er) fun v30=>
 B2 (cf (.func (.func 104) [] []) [aE,v30] er) fun v31 cU=>
 B1 (cJ v31 (.int .i64 0)) fun eO=>
 CD eO (
 some ((.bool false),cU)) (
 B1 (aW aI) fun eA=>
 B1 (fa 1 eA) fun v35=>
 B1 (ld v35 cU) fun v36=>
 B1 (fl [(.int .i64 0)] [(0,1,v31)]) fun Mf=>
 BN (aL cU Mf 3 0) fun i38 jj=>
 B2 (gC 3 1 [(.int .i64 0)] false v36 (.slice i38 0 1 1 true 1) jj) fun v40 fP=>
 B1 (aW aI) fun eX=>
 B1 (fa 1 eX) fun iS=>
 B1 (st 1 iS v40 fP) fun eL=>
 iC aI aE bp bI bP eL)) (fun fq fK gO gZ jz ki=>
 B1 (bW jz (.int .i64 1)) fun v51=>
 aG fq fK gO gZ v51 ki)) (
 cG  er)
noncomputable def CP (J:JT) (G:GT) (cf:CF) (eU:K.Fn 1) (cG:K.Fn 0):K.Fn 5:=dT P an J G cf 118 [1,1,0,1,0,1,0,0,1,0,0] [0,3,23,24,25] (fun q t H=>match Nat.beq q 1 with | true=>app 0 cG (ax [] t) H | false=>(fun q t H=>match Nat.beq q 0 with | true=>app 1 eU (ax [10] t) H | false=>(fun _ _ _=>none) q t H) q t H)
theorem ahB (J:JT) (G:GT) (cf:CF) (eU:K.Fn 1) (cG:K.Fn 0) (aG:K.Fn 5) (aI aE bp bI bP:AV) (er:Hp):kT P an J G cf 118 [1,1,0,1,0,1,0,0,1,0,0] [0,3,23,24,25] (fun q t H=>match Nat.beq q 1 with | true=>app 0 cG (ax [] t) H | false=>(fun q t H=>match Nat.beq q 0 with | true=>app 1 eU (ax [10] t) H | false=>(fun _ _ _=>none) q t H) q t H) aG [aI,aE,bp,bI,bP] er=Dc J G cf eU cG aG aI aE bp bI bP er:=by kernel_rfl
theorem Lj (cf:CF) (eU:K.Fn 1) (cG:K.Fn 0) (aI aE bp bI bP:AV) (er:Hp):CP JN GO cf eU cG aI aE bp bI bP er=Dc JN GO cf eU cG (CP JN GO cf eU cG) aI aE bp bI bP er:=aa0 (b:=app 5 (CP JN GO cf eU cG) [aI,aE,bp,bI,bP] er) (by kernel_rfl) ((ey cf _ _ _ _ [aI,aE,bp,bI,bP] rfl er).trans (ahB JN GO cf eU cG _ aI aE bp bI bP er))
noncomputable def ui (J:JT) (G:GT) (cf:CF) (a0 a1 a2 a3:AV) (H:Hp):R:=
 J 6 (fun j0=>
 B2 (cf (.func (.func 153) [] []) [a2] H) fun v1 h2=>
 B1 (ex 0 v1) fun v3=>
 B1 (ex 1 v1) fun v4=>
 j0 a0 a1 a2 a3 v3 v4 h2) (fun x5 x6 x7 x8 x9 cq fM=>
 J 1 (fun cg=>
 J 1 (fun eU=>
 B1 (seq x6 (.str [97,102,116,101,114])) fun cL=>
 CD cL (
 J 0 (fun fZ=>
 B2 (cf (.func (.func 88) [] []) [x7,(.str [44])] fM) fun dH dQ=>
 B1 (aV dH) fun dA=>
 J 0 (fun cG=>
 CP J G cf eU cG x5 x8 dH dA (.int .i64 0) dQ) (fun  sC=>
 fZ  sC)) (fun  fE=>
 some ((.bool true),fE))) (
 B1 (seq x6 (.str [114,101,116,114,121])) fun iA=>
 CD iA (
 B1 (aW x5) fun hU=>
 B1 (fa 2 hU) fun mb=>
 B1 (st 1 mb x9 fM) fun nB=>
 eU cq nB) (
 B1 (seq x6 (.str [119,97,105,116])) fun kL=>
 CD kL (
 B1 (aW x5) fun v59=>
 B1 (fa 3 v59) fun gL=>
 B1 (st 1 gL x9 fM) fun iL=>
 eU cq iL) (
 B1 (seq x6 (.str [98,97,115,101])) fun jd=>
 CD jd (
 B1 (aW x5) fun v63=>
 B1 (fa 4 v63) fun v64=>
 B1 (st 1 v64 x9 fM) fun lM=>
 eU cq lM) (
 B1 (seq x6 (.str [111,110])) fun jG=>
 CD jG (
 J 1 (fun F3=>
 B1 (aW x5) fun mZ=>
 B1 (fa 5 mZ) fun lO=>
 B1 (st 1 lO x7 fM) fun wk=>
 F3 x7 wk) (fun pT mn=>
 B1 (rK pT (.str [])) fun jO=>
 some (jO,mn))) (
 eU cq fM)))))) (fun iM oJ=>
 cg iM oJ)) (fun gM DD=>
 some (gM,DD)))
theorem acV (J:JT) (G:GT) (cf:CF) (a0 a1 a2 a3:AV) (H:Hp):fG P J G aU an cf 118 [a0,a1,a2,a3] H=ui J G cf a0 a1 a2 a3 H:=by kernel_rfl
theorem AR {a0 a1 a2 a3:AV} {H:Hp} {r:AV × Hp} (h:ui JN GO cK a0 a1 a2 a3 H=some r):cK (.func (.func 118) [] []) [a0,a1,a2,a3] H=some r:=aT (first:=[]) (cap:=[]) ((acV JN GO _ a0 a1 a2 a3 H).trans h)
noncomputable def yQ (J:JT) (G:GT) (cf:CF) (aG:K.Fn 2) (fe:K.Fn 7) (aE bp bI bP cO cB dY:AV) (dL:Hp):R:=
 B1 (cJ dY cB) fun v30=>
 CD v30 (
 J 7 (fun da=>
 B1 (ia 1 cO dY) fun v32=>
 B1 (ld v32 dL) fun eO=>
 J 10 (fun kN=>
 B2 (cf (.func (.func 117) [] []) [eO,(.str [61])] dL) fun v35 mI=>
 B1 (ex 0 v35) fun v37=>
 B1 (ex 1 v35) fun lf=>
 B1 (ex 2 v35) fun eQ=>
 kN aE bp bI bP eO v37 lf cO cB dY mI) (fun dd dS eK dX gD fq fK gO gZ jz ki=>
 B2 (cf (.func (.func 104) [] []) [dX,fq] ki) fun v51 sC=>
 J 8 (fun Qh=>
 J 9 (fun dW=>
 B1 (cJ v51 (.int .i64 0)) fun hU=>
 G hU false (fun Ar=>
 Ar fq sC) (fun v57 lT=>
 G hU false (fun Mq=>
 B1 (lens v57) fun gL=>
 Mq gL lT) (fun nX iR=>
 G hU false (fun k63=>
 k63 gD iR) (fun v64 lM=>
 G hU false (fun Nq=>
 B1 (lens v64) fun mH=>
 Nq mH lM) (fun mZ yj=>
 G hU false (fun k70=>
 B1 (bZ nX mZ) fun ng=>
 k70 ng yj) (fun v72 Bj=>
 B1 (pk hU (.bool true) v72) fun jq=>
 G jq false (fun k75=>
 k75 fq Bj) (fun v76 DD=>
 G jq false (fun k78=>
 k78 fK DD) (fun uB xe=>
 G jq false (fun MM=>
 MM dd xe) (fun oq sW=>
 G jq false (fun Po=>
 B2 (cf (.func (.func 118) [] []) [eK,v76,uB,oq] sW) fun v85 Ae=>
 Po v85 Ae) (fun v87 yX=>
 G jq false (fun LZ=>
 B1 (fW .not v87) fun sf=>
 LZ sf yX) (fun v91 tG=>
 B1 (pk jq (.bool true) v91) fun v93=>
 dW dd dS eK dX v51 gO gZ jz v93 tG) yX) sW) xe) DD) Bj) yj) lM) iR) lT) sC) (fun oK pA qN rZ vH nP tv ku lW lh=>
 CD lW (
 B1 (fl [(.str []),.ah,(.int .i64 0),(.int .i64 0),(.int .i64 0),(.str [])] []) fun Oi=>
 B1 (st 6 pA (.agg Oi) lh) fun xR=>
 B1 (aC 6 pA xR) fun FG=>
 some (.tuple [FG,(.bool false)],xR)) (
 Qh oK pA qN rZ vH nP tv ku lh))) (fun nf mG jZ uu ue zL zu Bn CO=>
 B1 (bW ue (.int .i64 1)) fun zQ=>
 B1 (pM 1 uu (some zQ) none none) fun v117=>
 da nf mG jZ v117 zL zu Bn CO))) (fun vF uz su rP uN wD Ap Rc=>
 B1 (bW Ap (.int .i64 1)) fun Mj=>
 fe vF uz su rP uN wD Mj Rc)) (
 aG bp bI dL)
noncomputable def Cl (J:JT) (G:GT) (cf:CF) (aG:K.Fn 2):K.Fn 7:=dT P an J G cf 89 [1,1,1,0,1,0,0] [1,4,6,7,20,21,22] (fun q t H=>match Nat.beq q 0 with | true=>app 2 aG (ax [4,6] t) H | false=>(fun _ _ _=>none) q t H)
theorem aiA (J:JT) (G:GT) (cf:CF) (aG:K.Fn 2) (fe:K.Fn 7) (aE bp bI bP cO cB dY:AV) (dL:Hp):kT P an J G cf 89 [1,1,1,0,1,0,0] [1,4,6,7,20,21,22] (fun q t H=>match Nat.beq q 0 with | true=>app 2 aG (ax [4,6] t) H | false=>(fun _ _ _=>none) q t H) fe [aE,bp,bI,bP,cO,cB,dY] dL=yQ J G cf aG fe aE bp bI bP cO cB dY dL:=by kernel_rfl
theorem DA (cf:CF) (aG:K.Fn 2) (aE bp bI bP cO cB dY:AV) (dL:Hp):Cl JN GO cf aG aE bp bI bP cO cB dY dL=yQ JN GO cf aG (Cl JN GO cf aG) aE bp bI bP cO cB dY dL:=aa0 (b:=app 7 (Cl JN GO cf aG) [aE,bp,bI,bP,cO,cB,dY] dL) (by kernel_rfl) ((ey cf _ _ _ _ [aE,bp,bI,bP,cO,cB,dY] rfl dL).trans (aiA JN GO cf aG _ aE bp bI bP cO cB dY dL))
noncomputable def Ln (J:JT) (G:GT) (cf:CF) (a0 a1:AV) (H:Hp):R:=
 BN (aL H [(.str []),.ah,(.int .i64 0),(.int .i64 0),(.int .i64 0),(.str [])] 99 0) fun i0 h1=>
 J 4 (fun j2=>
 B1 (ia 1 a0 (.int .i64 0)) fun v3=>
 B1 (ld v3 h1) fun v4=>
 B1 (fl [(.str []),.ah,(.int .i64 0),(.int .i64 0),(.int .i64 0),(.str [])] [(0,1,v4),(3,1,(.int .i64 10)),(4,1,(.int .i64 1))]) fun l5=>
 BN (aL h1 [(.str []),.ah,(.int .i64 0),(.int .i64 0),(.int .i64 0),(.str [])] 99 0) fun i6 h7=>
 B1 (st 6 (.ptr i6 0) (.agg l5) h7) fun h8=>
 j2 a0 a1 (.ptr i0 0) (.ptr i6 0) h8) (fun x9 cq bL bA eZ=>
 B1 (fl [(.str []),(.str []),(.str []),(.str []),(.str [])] [(0,1,(.str [97,102,116,101,114])),(1,1,(.str [114,101,116,114,121])),(2,1,(.str [119,97,105,116])),(3,1,(.str [98,97,115,101])),(4,1,(.str [111,110]))]) fun l14=>
 BN (aL eZ l14 9 0) fun i15 bM=>
 J 2 (fun jg=>
 B1 (pM 1 x9 (some (.int .i64 1)) none none) fun dA=>
 B1 (aV dA) fun eN=>
 J 2 (fun aG=>
 Cl J G cf aG cq bL bA (.slice i15 0 5 5 true 1) dA eN (.int .i64 0) bM) (fun iT jD NZ=>
 jg iT jD NZ)) (fun lP oX Bv=>
 B1 (aC 6 oX Bv) fun LK=>
 B1 (st 6 lP LK Bv) fun BS=>
 B1 (aC 6 lP BS) fun ahD=>
 some (.tuple [ahD,(.bool true)],BS)))
theorem ak5 (J:JT) (G:GT) (cf:CF) (a0 a1:AV) (H:Hp):fG P J G aU an cf 89 [a0,a1] H=Ln J G cf a0 a1 H:=by kernel_rfl
theorem Tv {a0 a1:AV} {H:Hp} {r:AV × Hp} (h:Ln JN GO cK a0 a1 H=some r):cK (.func (.func 89) [] []) [a0,a1] H=some r:=aT (first:=[]) (cap:=[]) ((ak5 JN GO _ a0 a1 H).trans h)
noncomputable def J9 (J:JT) (G:GT) (cf:CF) (fZ:K.Fn 3) (aR:K.Fn 6) (bh aF aM bB aI aE:AV) (br:Hp):R:=
 B1 (cJ aE aI) fun v24=>
 CD v24 (
 J 6 (fun xZ=>
 B1 (ia 1 bB aE) fun v26=>
 B1 (ld v26 br) fun v27=>
 B2 (cf (.func (.func 88) [] []) [v27,(.str [32])] br) fun v28 dL=>
 J 7 (fun A6=>
 B1 (fl [.ah] [(0,1,v28)]) fun l31=>
 BN (aL dL l31 46 0) fun i32 pg=>
 B2 (gC 46 1 [.ah] false aF (.slice i32 0 1 1 true 1) pg) fun eA iw=>
 A6 bh eA aM v28 bB aI aE iw) (fun bQ bT bV dm dd dS eK zo=>
 B1 (ia 1 dm (.int .i64 0)) fun v44=>
 B1 (ld v44 zo) fun fh=>
 B1 (fl [(.str [])] [(0,1,fh)]) fun l46=>
 BN (aL zo l46 9 0) fun i47 rU=>
 B2 (gC 9 1 [(.str [])] false bV (.slice i47 0 1 1 true 1) rU) fun v49 ki=>
 xZ bQ bT v49 dd dS eK ki)) (fun jM fO ji ie fH df nB=>
 B1 (bW df (.int .i64 1)) fun kL=>
 aR jM fO ji ie fH kL nB)) (
 fZ bh aF aM br)
noncomputable def D9 (J:JT) (G:GT) (cf:CF) (fZ:K.Fn 3):K.Fn 6:=dT P an J G cf 53 [1,1,1,1,0,1,0,0] [2,4,5,20,21,22] (fun q t H=>match Nat.beq q 0 with | true=>app 3 fZ (ax [2,4,5] t) H | false=>(fun _ _ _=>none) q t H)
theorem aki (J:JT) (G:GT) (cf:CF) (fZ:K.Fn 3) (aR:K.Fn 6) (bh aF aM bB aI aE:AV) (br:Hp):kT P an J G cf 53 [1,1,1,1,0,1,0,0] [2,4,5,20,21,22] (fun q t H=>match Nat.beq q 0 with | true=>app 3 fZ (ax [2,4,5] t) H | false=>(fun _ _ _=>none) q t H) aR [bh,aF,aM,bB,aI,aE] br=J9 J G cf fZ aR bh aF aM bB aI aE br:=by kernel_rfl
theorem Vk (cf:CF) (fZ:K.Fn 3) (bh aF aM bB aI aE:AV) (br:Hp):D9 JN GO cf fZ bh aF aM bB aI aE br=J9 JN GO cf fZ (D9 JN GO cf fZ) bh aF aM bB aI aE br:=aa0 (b:=app 6 (D9 JN GO cf fZ) [bh,aF,aM,bB,aI,aE] br) (by kernel_rfl) ((ey cf _ _ _ _ [bh,aF,aM,bB,aI,aE] rfl br).trans (aki JN GO cf fZ _ bh aF aM bB aI aE br))
noncomputable def C6 (J:JT) (G:GT) (cf:CF) (kG:K.Fn 2) (tJ:K.Fn 6) (iF iM lC gM ft ff:AV) (hZ:Hp):R:=
 B1 (cJ ff ft) fun v80=>
 CD v80 (
 J 6 (fun j81=>
 B1 (ia 1 gM ff) fun oq=>
 B1 (ld oq hZ) fun oC=>
 J 8 (fun j84=>
 B2 (cf (.func (.func 89) [] []) [oC,iM] hZ) fun v85 Ae=>
 B1 (ex 0 v85) fun v87=>
 B1 (ex 1 v85) fun zB=>
 BN (aL Ae [(.str []),.ah,(.int .i64 0),(.int .i64 0),(.int .i64 0),(.str [])] 99 0) fun i89 yN=>
 B1 (st 6 (.ptr i89 0) v87 yN) fun yi=>
 j84 iF iM lC (.ptr i89 0) zB gM ft ff yi) (fun nI qu oK pA qN rZ vH nP yY=>
 J 7 (fun ajp=>
 B1 (fW .not qN) fun xW=>
 CD xW (
 B1 (fl [.ah] []) fun al3=>
 B1 (st 1 nI (.agg al3) yY) fun JY=>
 B1 (aC 1 nI JY) fun v105=>
 some (.tuple [v105,(.int .i64 2)],JY)) (
 ajp nI qu oK pA rZ vH nP yY)) (fun rM nf mG jZ uu ue zL zd=>
 B1 (fa 0 mG) fun rN=>
 B1 (ld rN zd) fun u7=>
 B1 (aC 6 jZ zd) fun zQ=>
 B1 (fl [(.str []),.ah,(.int .i64 0),(.int .i64 0),(.int .i64 0),(.str [])] [(0,6,zQ)]) fun ai1=>
 BN (aL zd ai1 99 0) fun i118 Mo=>
 B2 (gC 99 6 [(.str []),.ah,(.int .i64 0),(.int .i64 0),(.int .i64 0),(.str [])] false u7 (.slice i118 0 1 1 true 6) Mo) fun Et Js=>
 B1 (fa 0 mG) fun zH=>
 B1 (st 1 zH Et Js) fun CH=>
 j81 rM nf mG uu ue zL CH))) (fun Ap El ja iT jD kI Py=>
 B1 (bW kI (.int .i64 1)) fun v131=>
 tJ Ap El ja iT jD v131 Py)) (
 kG iF lC hZ)
noncomputable def Ca (J:JT) (G:GT) (cf:CF) (kG:K.Fn 2):K.Fn 6:=dT P an J G cf 53 [1,1,1,1,1,1,0,1,0,0] [2,5,9,39,40,41] (fun q t H=>match Nat.beq q 2 with | true=>app 2 kG (ax [2,9] t) H | false=>(fun _ _ _=>none) q t H)
theorem amZ (J:JT) (G:GT) (cf:CF) (kG:K.Fn 2) (tJ:K.Fn 6) (iF iM lC gM ft ff:AV) (hZ:Hp):kT P an J G cf 53 [1,1,1,1,1,1,0,1,0,0] [2,5,9,39,40,41] (fun q t H=>match Nat.beq q 2 with | true=>app 2 kG (ax [2,9] t) H | false=>(fun _ _ _=>none) q t H) tJ [iF,iM,lC,gM,ft,ff] hZ=C6 J G cf kG tJ iF iM lC gM ft ff hZ:=by kernel_rfl
theorem Ll (cf:CF) (kG:K.Fn 2) (iF iM lC gM ft ff:AV) (hZ:Hp):Ca JN GO cf kG iF iM lC gM ft ff hZ=C6 JN GO cf kG (Ca JN GO cf kG) iF iM lC gM ft ff hZ:=aa0 (b:=app 6 (Ca JN GO cf kG) [iF,iM,lC,gM,ft,ff] hZ) (by kernel_rfl) ((ey cf _ _ _ _ [iF,iM,lC,gM,ft,ff] rfl hZ).trans (amZ JN GO cf kG _ iF iM lC gM ft ff hZ))
noncomputable def Ai (J:JT) (G:GT) (cf:CF) (a0:AV) (H:Hp):R:=
 BN (aL H [.ah] 72 0) fun i0 h1=>
 J 2 (fun j2=>
 B1 (lens a0) fun v3=>
 B1 (lQ v3 (.int .i64 1024)) fun v4=>
 CD v4 (
 B1 (fl [.ah] []) fun l5=>
 B1 (st 1 (.ptr i0 0) (.agg l5) h1) fun h6=>
 B1 (aC 1 (.ptr i0 0) h6) fun v7=>
 some (.tuple [v7,(.int .i64 14)],h6)) (
 j2 a0 (.ptr i0 0) h1)) (fun x8 x9 cN=>
 J 3 (fun mE=>
 B2 (cf (.func (.func 88) [] []) [x8,(.str [59])] cN) fun v12 eZ=>
 B1 (aV v12) fun cL=>
 J 3 (fun fZ=>
 D9 J G cf fZ x9 .ah .ah v12 cL (.int .i64 0) eZ) (fun db eD dV iR=>
 mE db eD dV iR)) (fun gx fL fY fI=>
 BN (aL fI [.ah] 72 0) fun i67 vN=>
 J 2 (fun BM=>
 B1 (aV fL) fun v70=>
 J 2 (fun kG=>
 Ca J G cf kG gx fY (.ptr i67 0) fL v70 (.int .i64 0) vN) (fun lJ uI BS=>
 BM lJ uI BS)) (fun qd qK YR=>
 J 2 (fun LW=>
 B1 (aC 1 qK YR) fun v139=>
 B2 (cf (.func (.func 90) [] []) [v139] YR) fun Dy RB=>
 B1 (gy Dy (.int .i64 0)) fun GM=>
 CD GM (
 B1 (fl [.ah] []) fun adD=>
 B1 (st 1 qd (.agg adD) RB) fun IC=>
 B1 (aC 1 qd IC) fun v145=>
 some (.tuple [v145,Dy],IC)) (
 LW qd qK RB)) (fun IW aiH JW=>
 B1 (aC 1 aiH JW) fun O7=>
 B1 (st 1 IW O7 JW) fun JR=>
 B1 (aC 1 IW JR) fun ag8=>
 some (.tuple [ag8,(.int .i64 0)],JR)))))
theorem amF (J:JT) (G:GT) (cf:CF) (a0:AV) (H:Hp):fG P J G aU an cf 53 [a0] H=Ai J G cf a0 H:=by kernel_rfl
theorem HG {a0:AV} {H:Hp} {r:AV × Hp} (h:Ai JN GO cK a0 H=some r):cK (.func (.func 53) [] []) [a0] H=some r:=aT (first:=[]) (cap:=[]) ((amF JN GO _ a0 H).trans h)
noncomputable def RS (J:JT) (G:GT) (cf:CF) (a0 a1 a2:AV) (H:Hp):R:=
 B1 (lY a0 a1) fun v0=>
 G v0 true (fun k1=>
 k1 a0 H) (fun v2 h3=>
 G v0 true (fun k4=>
 k4 a2 h3) (fun v5 h6=>
 G v0 true (fun k7=>
 B1 (oN v2 v5) fun v8=>
 k7 v8 h6) (fun v9 cN=>
 B1 (pk v0 v9 (.bool false)) fun v11=>
 some (v11,cN)) h6) h3) H
theorem an3 {a0 a1 a2:AV} {H:Hp} {r:AV × Hp} (h:RS JN GO cK a0 a1 a2 H=some r):cK (.func (.func 119) [] []) [a0,a1,a2] H=some r:=aT (first:=[]) (cap:=[]) (aa0 (by kernel_rfl) h)
noncomputable def Jc (J:JT) (G:GT) (cf:CF) (j6:K.Fn 0) (j7:K.Fn 4) (x8 x9 cq bL:AV) (dP:Hp):R:=
 B1 (cJ bL cq) fun dN=>
 CD dN (
 J 4 (fun bR=>
 J 6 (fun fZ=>
 B1 (ia 6 x9 bL) fun dH=>
 B1 (aC 6 dH dP) fun fx=>
 BN (aL dP [(.str []),.ah,(.int .i64 0),(.int .i64 0),(.int .i64 0),(.str [])] 99 0) fun i18 dC=>
 B1 (st 6 (.ptr i18 0) fx dC) fun cx=>
 fZ x8 bL (.ptr i18 0) x9 cq bL cx) (fun aI aE bp bI bP cO eP=>
 B1 (aC 6 bp eP) fun v28=>
 B2 (cf aI [aE,v28] eP) fun v29 kO=>
 CD v29 (
 some ((.bool true),kO)) (
 bR aI bI bP cO kO))) (fun bO eB cH dc iw=>
 B1 (bW dc (.int .i64 1)) fun v36=>
 j7 bO eB cH v36 iw)) (
 j6  dP)
noncomputable def Gw (J:JT) (G:GT) (cf:CF) (j6:K.Fn 0):K.Fn 4:=dT P an J G cf 125 [1,0,1,0,0] [1,8,9,10] (fun q t H=>match Nat.beq q 0 with | true=>app 0 j6 (ax [] t) H | false=>(fun _ _ _=>none) q t H)
theorem NM (cf:CF) (j6:K.Fn 0) (x8 x9 cq bL:AV) (dP:Hp):Gw JN GO cf j6 x8 x9 cq bL dP=Jc JN GO cf j6 (Gw JN GO cf j6) x8 x9 cq bL dP:=aa0 (b:=app 4 (Gw JN GO cf j6) [x8,x9,cq,bL] dP) (by kernel_rfl) ((ey cf 125 [1,0,1,0,0] [1,8,9,10] _ [x8,x9,cq,bL] rfl dP).trans (by kernel_rfl))
noncomputable def ZN (J:JT) (G:GT) (cf:CF) (a0 a1:AV) (H:Hp):R:=
 BN (bx 72 a0 H) fun i0 h1=>
 J 0 (fun j2=>
 B1 (fa 0 (.ptr i0 0)) fun v3=>
 B1 (ld v3 h1) fun v4=>
 B1 (aV v4) fun v5=>
 J 0 (fun j6=>
 Gw J G cf j6 a1 v4 v5 (.int .i64 0) h1) (fun  iB=>
 j2  iB)) (fun  eT=>
 some ((.bool false),eT))
theorem amw {a0 a1:AV} {H:Hp} {r:AV × Hp} (h:ZN JN GO cK a0 a1 H=some r):cK (.func (.func 125) [] []) [a0,a1] H=some r:=aT (first:=[]) (cap:=[]) (aa0 (by kernel_rfl) h)
noncomputable def F7 (J:JT) (G:GT) (cf:CF) (dI:K.Fn 1) (vE:K.Fn 4) (bT bV dm dd:AV) (fP:Hp):R:=
 B1 (cJ dd dm) fun eX=>
 CD eX (
 J 4 (fun j43=>
 B1 (ia 2 bV dd) fun v44=>
 B1 (aC 2 v44 fP) fun fh=>
 BN (aL fP [.nilFunc,(.int .i64 0)] 194 0) fun i46 kB=>
 B1 (st 2 (.ptr i46 0) fh kB) fun rU=>
 B1 (aC 1 bT rU) fun v49=>
 B1 (fa 0 (.ptr i46 0)) fun jw=>
 B1 (ld jw rU) fun v51=>
 B2 (cf (.func (.func 125) [] []) [v49,v51] rU) fun gi fE=>
 CD gi (
 B1 (fa 1 (.ptr i46 0)) fun iA=>
 B1 (ld iA fE) fun hU=>
 some (hU,fE)) (
 j43 bT bV dm dd fE)) (fun df dD dJ db mA=>
 B1 (bW db (.int .i64 1)) fun nX=>
 vE df dD dJ nX mA)) (
 dI bT fP)
noncomputable def zy (J:JT) (G:GT) (cf:CF) (dI:K.Fn 1):K.Fn 4:=dT P an J G cf 90 [1,1,1,0,1,0,0] [1,18,19,20] (fun q t H=>match Nat.beq q 0 with | true=>app 1 dI (ax [1] t) H | false=>(fun _ _ _=>none) q t H)
theorem agr (J:JT) (G:GT) (cf:CF) (dI:K.Fn 1) (vE:K.Fn 4) (bT bV dm dd:AV) (fP:Hp):kT P an J G cf 90 [1,1,1,0,1,0,0] [1,18,19,20] (fun q t H=>match Nat.beq q 0 with | true=>app 1 dI (ax [1] t) H | false=>(fun _ _ _=>none) q t H) vE [bT,bV,dm,dd] fP=F7 J G cf dI vE bT bV dm dd fP:=by kernel_rfl
theorem aay (cf:CF) (dI:K.Fn 1) (bT bV dm dd:AV) (fP:Hp):zy JN GO cf dI bT bV dm dd fP=F7 JN GO cf dI (zy JN GO cf dI) bT bV dm dd fP:=aa0 (b:=app 4 (zy JN GO cf dI) [bT,bV,dm,dd] fP) (by kernel_rfl) ((ey cf _ _ _ _ [bT,bV,dm,dd] rfl fP).trans (agr JN GO cf dI _ bT bV dm dd fP))
noncomputable def xj (J:JT) (G:GT) (cf:CF) (a0:AV) (H:Hp):R:=
 BN (bx 72 a0 H) fun i0 h1=>
 J 1 (fun j2=>
 J 2 (fun j3=>
 B1 (fa 0 (.ptr i0 0)) fun v4=>
 B1 (ld v4 h1) fun v5=>
 B1 (aV v5) fun v6=>
 B2 (cf (.func (.func 119) [] []) [v6,(.int .i64 1),(.int .i64 16)] h1) fun v7 h8=>
 B1 (fW .not v7) fun v9=>
 j3 (.ptr i0 0) v9 h8) (fun cq bL dP=>
 CD bL (
 some ((.int .i64 1),dP)) (
 j2 cq dP))) (fun bu jL=>
 BN (xi jL) fun i15 bM=>
 BN (aL bM [.jv] 192 0) fun i17 gW=>
 B1 (st 1 (.ptr i17 0) (.map i15) gW) fun dC=>
 J 1 (fun aG=>
 J 4 (fun fe=>
 B1 (fl [.nilFunc,(.int .i64 0)] [(0,1,(.func (.func 120) [] [])),(1,1,(.int .i64 2))]) fun LS=>
 B1 (fl [.nilFunc,(.int .i64 0)] [(0,1,(.func (.func 121) [] [(.ptr i17 0)])),(1,1,(.int .i64 5))]) fun l23=>
 B1 (fl [.nilFunc,(.int .i64 0)] [(0,1,(.func (.func 122) [] [])),(1,1,(.int .i64 1))]) fun QX=>
 B1 (fl [.nilFunc,(.int .i64 0)] [(0,1,(.func (.func 123) [] [bu])),(1,1,(.int .i64 1))]) fun l25=>
 B1 (fl [.nilFunc,(.int .i64 0),.nilFunc,(.int .i64 0),.nilFunc,(.int .i64 0),.nilFunc,(.int .i64 0)] [(0,2,(.agg LS)),(2,2,(.agg l23)),(4,2,(.agg QX)),(6,2,(.agg l25))]) fun l26=>
 BN (aL dC l26 194 0) fun i27 gF=>
 B1 (aV (.slice i27 0 4 4 true 2)) fun v29=>
 fe bu (.slice i27 0 4 4 true 2) v29 (.int .i64 0) gF) (fun bY bO eB cH fQ=>
 J 1 (fun dI=>
 zy J G cf dI bY bO eB cH fQ) (fun iX xG=>
 aG iX xG))) (fun fL lM=>
 J 0 (fun j66=>
 J 1 (fun F3=>
 B1 (aC 1 fL lM) fun mZ=>
 B2 (cf (.func (.func 127) [] []) [mZ] lM) fun lO wk=>
 B2 (cf (.func (.func 126) [] []) [lO] wk) fun ng mn=>
 B1 (aV ng) fun jO=>
 B1 (lQ jO (.int .i64 0)) fun jq=>
 F3 jq mn) (fun lC mw=>
 CD lC (
 some ((.int .i64 7),mw)) (
 j66  mw))) (fun  DD=>
 some ((.int .i64 0),DD))))
theorem aiC (J:JT) (G:GT) (cf:CF) (a0:AV) (H:Hp):fG P J G aU an cf 90 [a0] H=xj J G cf a0 H:=by kernel_rfl
theorem Cy {a0:AV} {H:Hp} {r:AV × Hp} (h:xj JN GO cK a0 H=some r):cK (.func (.func 90) [] []) [a0] H=some r:=aT (first:=[]) (cap:=[]) ((aiC JN GO _ a0 H).trans h)
noncomputable def SI (J:JT) (G:GT) (cf:CF) (a0 a1:AV) (H:Hp):R:=
 BN (bx 99 a1 H) fun i0 h1=>
 B1 (fa 0 (.ptr i0 0)) fun v2=>
 B1 (ld v2 h1) fun v3=>
 B2 (cf (.func (.func 54) [] []) [v3] h1) fun v4 h5=>
 B1 (fW .not v4) fun v6=>
 G v6 false (fun k7=>
 B1 (fa 5 (.ptr i0 0)) fun v8=>
 k7 v8 h5) (fun v9 cN=>
 G v6 false (fun Eb=>
 B1 (ld v9 cN) fun v12=>
 Eb v12 cN) (fun dN jL=>
 G v6 false (fun Ad=>
 B1 (rK dN (.str [])) fun dH=>
 Ad dH jL) (fun fx gW=>
 G v6 false (fun k19=>
 k19 fx gW) (fun v20 kc=>
 G v20 true (fun Pw=>
 B1 (fa 5 (.ptr i0 0)) fun v23=>
 Pw v23 kc) (fun v24 dU=>
 G v20 true (fun F0=>
 B1 (ld v24 dU) fun v27=>
 F0 v27 dU) (fun v28 dL=>
 G v20 true (fun Qf=>
 B2 (cf (.func (.func 54) [] []) [v28] dL) fun v31 cU=>
 Qf v31 cU) (fun eO fQ=>
 G v20 true (fun rT=>
 B1 (fW .not eO) fun v36=>
 rT v36 fQ) (fun v37 eT=>
 G v6 false (fun Az=>
 B1 (pk v20 v37 (.bool false)) fun v40=>
 Az v40 eT) (fun v41 ez=>
 B1 (pk v6 (.bool true) v41) fun iS=>
 some (iS,ez)) eT) fQ) dL) dU) kc) gW) jL) cN) h5
theorem ahV {a0 a1:AV} {H:Hp} {r:AV × Hp} (h:SI JN GO cK a0 a1 H=some r):cK (.func (.func 120) [] []) [a0,a1] H=some r:=aT (first:=[]) (cap:=[]) (aa0 (by kernel_rfl) h)
noncomputable def P5 (J:JT) (G:GT) (cf:CF) (a0 a1 a2:AV) (H:Hp):R:=
 BN (bx 99 a1 H) fun i0 h1=>
 J 3 (fun j2=>
 B1 (ld a2 h1) fun v3=>
 B1 (fa 0 (.ptr i0 0)) fun v4=>
 B1 (ld v4 h1) fun v5=>
 B1 (sG .str (.bool false) false v3 v5 h1) fun v6=>
 j2 a2 (.ptr i0 0) v6 h1) (fun x7 x8 x9 cN=>
 B1 (ld x7 cN) fun v11=>
 B1 (fa 0 x8) fun v12=>
 B1 (ld v12 cN) fun dN=>
 B1 (tn .str v11 dN (.bool true) cN) fun jL=>
 some (x9,jL))
theorem V1 {a0 a1 a2:AV} {H:Hp} {r:AV × Hp} (h:P5 JN GO cK a0 a1 a2 H=some r):cK (.func (.func 121) [] [a2]) [a0,a1] H=some r:=aT (first:=[]) (cap:=[a2]) (aa0 (by kernel_rfl) h)
noncomputable def Uc (J:JT) (G:GT) (cf:CF) (a0 a1:AV) (H:Hp):R:=
 BN (bx 99 a1 H) fun i0 h1=>
 B1 (fa 2 (.ptr i0 0)) fun v2=>
 B1 (ld v2 h1) fun v3=>
 B2 (cf (.func (.func 119) [] []) [v3,(.int .i64 0),(.int .i64 8)] h1) fun v4 h5=>
 B1 (fW .not v4) fun v6=>
 G v6 false (fun k7=>
 B1 (fa 3 (.ptr i0 0)) fun v8=>
 k7 v8 h5) (fun v9 cN=>
 G v6 false (fun Eb=>
 B1 (ld v9 cN) fun v12=>
 Eb v12 cN) (fun dN jL=>
 G v6 false (fun Ad=>
 B2 (cf (.func (.func 119) [] []) [dN,(.int .i64 1),(.int .i64 1000)] jL) fun dH dQ=>
 Ad dH dQ) (fun dA dC=>
 G v6 false (fun PM=>
 B1 (fW .not dA) fun v21=>
 PM v21 dC) (fun v22 br=>
 B1 (pk v6 (.bool true) v22) fun v24=>
 G v24 false (fun Hw=>
 B1 (fa 4 (.ptr i0 0)) fun v26=>
 Hw v26 br) (fun v27 gF=>
 G v24 false (fun N6=>
 B1 (ld v27 gF) fun v30=>
 N6 v30 gF) (fun v31 cU=>
 G v24 false (fun EW=>
 B2 (cf (.func (.func 119) [] []) [v31,(.int .i64 1),(.int .i64 1000)] cU) fun eA iw=>
 EW eA iw) (fun v36 iB=>
 G v24 false (fun xB=>
 B1 (fW .not v36) fun eQ=>
 xB eQ iB) (fun v40 fP=>
 B1 (pk v24 (.bool true) v40) fun eX=>
 some (eX,fP)) iB) cU) gF) br) dC) jL) cN) h5
theorem adK {a0 a1:AV} {H:Hp} {r:AV × Hp} (h:Uc JN GO cK a0 a1 H=some r):cK (.func (.func 122) [] []) [a0,a1] H=some r:=aT (first:=[]) (cap:=[]) (aa0 (by kernel_rfl) h)
noncomputable def aau (J:JT) (G:GT) (cf:CF) (a0 a1 a2:AV) (H:Hp):R:=
 BN (bx 99 a1 H) fun i0 h1=>
 B1 (aC 1 a2 h1) fun v2=>
 B1 (fa 1 (.ptr i0 0)) fun v3=>
 B1 (ld v3 h1) fun v4=>
 B2 (cf (.func (.func 124) [] []) [v2,a0,v4] h1) fun v5 h6=>
 B1 (fW .not v5) fun v7=>
 some (v7,h6)
theorem ab4 {a0 a1 a2:AV} {H:Hp} {r:AV × Hp} (h:aau JN GO cK a0 a1 a2 H=some r):cK (.func (.func 123) [] [a2]) [a0,a1] H=some r:=aT (first:=[]) (cap:=[a2]) (aa0 (by kernel_rfl) h)
noncomputable def zV (J:JT) (G:GT) (cf:CF) (j4:K.Fn 0) (j5:K.Fn 6) (x6 x7 x8 x9 cq bL:AV) (dP:Hp):R:=
 B1 (cJ bL cq) fun dN=>
 CD dN (
 J 6 (fun bR=>
 J 8 (fun fZ=>
 B1 (ia 1 x9 bL) fun dH=>
 B1 (ld dH dP) fun fx=>
 fZ x6 x7 x8 bL fx x9 cq bL dP) (fun aF aM bB aI aE bp bI bP er=>
 J 7 (fun gH=>
 B1 (fa 0 bB) fun v28=>
 B1 (ld v28 er) fun v29=>
 B1 (aV v29) fun v30=>
 B1 (nG v30 (.int .i64 1)) fun v31=>
 B2 (cf (.func (.func 119) [] []) [aE,(.int .i64 0),v31] er) fun v32 pg=>
 B1 (fW .not v32) fun eA=>
 G eA false (fun rT=>
 rT aE pg) (fun v36 iB=>
 G eA false (fun xB=>
 xB aF iB) (fun eQ nO=>
 G eA false (fun k41=>
 B1 (bZ v36 eQ) fun eX=>
 k41 eX nO) (fun iS eL=>
 B1 (pk eA (.bool true) iS) fun fh=>
 G fh false (fun MT=>
 MT aM eL) (fun ma rU=>
 G fh false (fun L9=>
 L9 aI rU) (fun jw mV=>
 G fh false (fun GY=>
 B1 (pM 1 ma none (some jw) none) fun v53=>
 GY v53 mV) (fun iA uL=>
 G fh false (fun Ar=>
 Ar aE uL) (fun v57 lT=>
 G fh false (fun Mq=>
 B2 (cf (.func (.func 154) [] []) [iA,v57] lT) fun gL iL=>
 Mq gL iL) (fun jd xG=>
 B1 (pk fh (.bool true) jd) fun v64=>
 gH aF aM bB bp bI bP v64 xG) lT) uL) mV) rU) eL) nO) iB) pg) (fun fY qE jI jY lG kV pT mn=>
 CD pT (
 some ((.bool false),mn)) (
 bR fY qE jI jY lG kV mn)))) (fun iF iM lC gM ft ff hZ=>
 B1 (bW ff (.int .i64 1)) fun v80=>
 j5 iF iM lC gM ft v80 hZ)) (
 j4  dP)
noncomputable def Eu (J:JT) (G:GT) (cf:CF) (j4:K.Fn 0):K.Fn 6:=dT P an J G cf 124 [1,0,1,0,0] [1,2,3,9,10,11] (fun q t H=>match Nat.beq q 0 with | true=>app 0 j4 (ax [] t) H | false=>(fun _ _ _=>none) q t H)
theorem aff (J:JT) (G:GT) (cf:CF) (j4:K.Fn 0) (j5:K.Fn 6) (x6 x7 x8 x9 cq bL:AV) (dP:Hp):kT P an J G cf 124 [1,0,1,0,0] [1,2,3,9,10,11] (fun q t H=>match Nat.beq q 0 with | true=>app 0 j4 (ax [] t) H | false=>(fun _ _ _=>none) q t H) j5 [x6,x7,x8,x9,cq,bL] dP=zV J G cf j4 j5 x6 x7 x8 x9 cq bL dP:=by kernel_rfl
theorem aae (cf:CF) (j4:K.Fn 0) (x6 x7 x8 x9 cq bL:AV) (dP:Hp):Eu JN GO cf j4 x6 x7 x8 x9 cq bL dP=zV JN GO cf j4 (Eu JN GO cf j4) x6 x7 x8 x9 cq bL dP:=aa0 (b:=app 6 (Eu JN GO cf j4) [x6,x7,x8,x9,cq,bL] dP) (by kernel_rfl) ((ey cf _ _ _ _ [x6,x7,x8,x9,cq,bL] rfl dP).trans (aff JN GO cf j4 _ x6 x7 x8 x9 cq bL dP))
noncomputable def Nr (J:JT) (G:GT) (cf:CF) (a0 a1 a2:AV) (H:Hp):R:=
 BN (bx 72 a0 H) fun i0 h1=>
 J 0 (fun j2=>
 B1 (aV a2) fun v3=>
 J 0 (fun j4=>
 Eu J G cf j4 a1 a2 (.ptr i0 0) a2 v3 (.int .i64 0) h1) (fun  sU=>
 j2  sU)) (fun  sM=>
 some ((.bool true),sM))
theorem alu (J:JT) (G:GT) (cf:CF) (a0 a1 a2:AV) (H:Hp):fG P J G aU an cf 124 [a0,a1,a2] H=Nr J G cf a0 a1 a2 H:=by kernel_rfl
theorem adv {a0 a1 a2:AV} {H:Hp} {r:AV × Hp} (h:Nr JN GO cK a0 a1 a2 H=some r):cK (.func (.func 124) [] []) [a0,a1,a2] H=some r:=aT (first:=[]) (cap:=[]) ((alu JN GO _ a0 a1 a2 H).trans h)
noncomputable def Ix (J:JT) (G:GT) (cf:CF) (aX:K.Fn 1) (aG:K.Fn 5) (gw:K.Fn 7) (G5:K.Fn 10) (dc dh bQ bT bV dm dd dS eK dX:AV) (eL:Hp):R:=
 B1 (cJ dX eK) fun fh=>
 CD fh (
 J 10 (fun Mx=>
 J 12 (fun xv=>
 B1 (ia 1 dS dX) fun gk=>
 B1 (ld gk eL) fun v49=>
 xv dc dh bQ bT dX v49 bV dm dd dS eK dX eL) (fun kH jM fO ji ie fH df dD dJ db eD dV iR=>
 J 11 (fun K4=>
 B1 (bZ ie (.int .i64 0)) fun v64=>
 CD v64 (
 B1 (qC ji (.str [32,97,102,116,101,114,61])) fun nz=>
 K4 kH jM fO nz fH df dD dJ db eD dV iR) (
 B1 (qC ji (.str [44])) fun jG=>
 K4 kH jM fO jG fH df dD dJ db eD dV iR)) (fun jI jY lG kV pT uh iF iM lC gM ft xz=>
 B1 (fa 0 jI) fun uB=>
 B1 (ld uB xz) fun v80=>
 B1 (ia 6 v80 pT) fun rW=>
 B1 (fa 0 rW) fun oq=>
 B1 (ld oq xz) fun oC=>
 B1 (qC kV oC) fun zM=>
 Mx jI jY lG zM uh iF iM lC gM ft xz))) (fun pH pF sr nj yd Gv CM nI qu oK qo=>
 B1 (bW oK (.int .i64 1)) fun py=>
 G5 pH pF sr nj yd Gv CM nI qu py qo)) (
 gw dc dh bQ bT bV dm dd eL)
noncomputable def HO (J:JT) (G:GT) (cf:CF) (aX:K.Fn 1) (aG:K.Fn 5) (gw:K.Fn 7):K.Fn 10:=dT P an J G cf 55 [1,1,1,0,1,0,0,1,1,0,0,1,1,0,1,0,0] [1,3,5,6,13,14,15,22,23,24] (fun q t H=>match Nat.beq q 2 with | true=>app 7 gw (ax [1,3,5,6,13,14,15] t) H | false=>(fun q t H=>match Nat.beq q 1 with | true=>app 5 aG (ax [1,3,13,14,15] t) H | false=>(fun q t H=>match Nat.beq q 0 with | true=>app 1 aX (ax [3] t) H | false=>(fun _ _ _=>none) q t H) q t H) q t H)
theorem NX (cf:CF) (aX:K.Fn 1) (aG:K.Fn 5) (gw:K.Fn 7) (dc dh bQ bT bV dm dd dS eK dX:AV) (eL:Hp):HO JN GO cf aX aG gw dc dh bQ bT bV dm dd dS eK dX eL=Ix JN GO cf aX aG gw (HO JN GO cf aX aG gw) dc dh bQ bT bV dm dd dS eK dX eL:=aa0 (b:=app 10 (HO JN GO cf aX aG gw) [dc,dh,bQ,bT,bV,dm,dd,dS,eK,dX] eL) (by kernel_rfl) ((ey cf 55 [1,1,1,0,1,0,0,1,1,0,0,1,1,0,1,0,0] [1,3,5,6,13,14,15,22,23,24] _ [dc,dh,bQ,bT,bV,dm,dd,dS,eK,dX] rfl eL).trans (by kernel_rfl))
noncomputable def G3 (J:JT) (G:GT) (cf:CF) (aX:K.Fn 1) (mE:K.Fn 5) (bA bu bF bw aZ:AV) (dQ:Hp):R:=
 B1 (cJ aZ bw) fun dA=>
 CD dA (
 J 5 (fun cG=>
 J 5 (fun aG=>
 B1 (ia 6 bF aZ) fun v21=>
 B1 (aC 6 v21 dQ) fun v22=>
 BN (aL dQ [(.str []),.ah,(.int .i64 0),(.int .i64 0),(.int .i64 0),(.str [])] 99 0) fun i23 iZ=>
 B1 (st 6 (.ptr i23 0) v22 iZ) fun dU=>
 B1 (fa 0 (.ptr i23 0)) fun v26=>
 B1 (ld v26 dU) fun v27=>
 J 7 (fun iC=>
 B1 (fa 1 (.ptr i23 0)) fun v29=>
 B1 (ld v29 dU) fun v30=>
 B1 (aV v30) fun v31=>
 J 7 (fun gw=>
 HO J G cf aX aG gw bA bu (.ptr i23 0) v27 bF bw aZ v30 v31 (.int .i64 0) dU) (fun rZ vH nP tv ku lW xh JY=>
 iC rZ vH nP tv ku lW xh JY)) (fun nE rM nf mG jZ uu ue BJ=>
 J 7 (fun aif=>
 B1 (fa 2 nf) fun rN=>
 B1 (ld rN BJ) fun u7=>
 B2 (cf (.func (.func 92) [] []) [(.str [32,114,101,116,114,121,61]),u7,(.int .i64 0)] BJ) fun zQ OQ=>
 B1 (fa 3 nf) fun CW=>
 B1 (ld CW OQ) fun yn=>
 B2 (cf (.func (.func 92) [] []) [(.str [32,119,97,105,116,61]),yn,(.int .i64 10)] OQ) fun Et Js=>
 B1 (qC zQ Et) fun zH=>
 B1 (fa 4 nf) fun wR=>
 B1 (ld wR Js) fun v124=>
 B2 (cf (.func (.func 92) [] []) [(.str [32,98,97,115,101,61]),v124,(.int .i64 1)] Js) fun yI Qi=>
 B1 (qC zH yI) fun v127=>
 B1 (qC mG v127) fun alj=>
 B1 (ld CW BJ) fun N0=>
 SM yn N0 <|
 B1 (ld wR BJ) fun v130=>
 SM v124 v130 <|
 B1 (ld wR OQ) fun v131=>
 SM v124 v131 <|
 aif nE rM nf alj jZ uu ue Qi) (fun lJ uI uU qd qK vg Cx yg=>
 J 6 (fun TK=>
 B1 (fa 5 uU) fun v141=>
 B1 (ld v141 yg) fun GM=>
 B1 (rK GM (.str [])) fun v143=>
 CD v143 (
 B1 (fa 5 uU) fun akf=>
 B1 (ld akf yg) fun v145=>
 B1 (qC (.str [32,111,110,61]) v145) fun v146=>
 B1 (qC qd v146) fun EZ=>
 TK lJ uI EZ qK vg Cx yg) (
 TK lJ uI qd qK vg Cx yg)) (fun Nz GK Gk GJ FZ DN Iw=>
 B1 (fl [(.str [])] [(0,1,Gk)]) fun aiS=>
 BN (aL Iw aiS 9 0) fun i156 agL=>
 B2 (gC 9 1 [(.str [])] false GK (.slice i156 0 1 1 true 1) agL) fun aeJ OI=>
 aG Nz aeJ GJ FZ DN OI)))) (fun Hg Nh En Hy Hf La=>
 cG Hg Nh En Hy Hf La)) (fun QY Hk EL HU Mw LY=>
 B1 (bW Mw (.int .i64 1)) fun af8=>
 mE QY Hk EL HU af8 LY)) (
 aX bu dQ)
noncomputable def G8 (J:JT) (G:GT) (cf:CF) (aX:K.Fn 1):K.Fn 5:=dT P an J G cf 55 [1,1,1,0,1,0,0] [1,3,13,14,15] (fun q t H=>match Nat.beq q 0 with | true=>app 1 aX (ax [3] t) H | false=>(fun _ _ _=>none) q t H)
theorem alH (J:JT) (G:GT) (cf:CF) (aX:K.Fn 1) (mE:K.Fn 5) (bA bu bF bw aZ:AV) (dQ:Hp):kT P an J G cf 55 [1,1,1,0,1,0,0] [1,3,13,14,15] (fun q t H=>match Nat.beq q 0 with | true=>app 1 aX (ax [3] t) H | false=>(fun _ _ _=>none) q t H) mE [bA,bu,bF,bw,aZ] dQ=G3 J G cf aX mE bA bu bF bw aZ dQ:=by kernel_rfl
theorem Mr (cf:CF) (aX:K.Fn 1) (bA bu bF bw aZ:AV) (dQ:Hp):G8 JN GO cf aX bA bu bF bw aZ dQ=G3 JN GO cf aX (G8 JN GO cf aX) bA bu bF bw aZ dQ:=aa0 (b:=app 5 (G8 JN GO cf aX) [bA,bu,bF,bw,aZ] dQ) (by kernel_rfl) ((ey cf _ _ _ _ [bA,bu,bF,bw,aZ] rfl dQ).trans (alH JN GO cf aX _ bA bu bF bw aZ dQ))
noncomputable def P7 (J:JT) (G:GT) (cf:CF) (a0:AV) (H:Hp):R:=
 BN (bx 72 a0 H) fun i0 h1=>
 B1 (aC 1 (.ptr i0 0) h1) fun v2=>
 B2 (cf (.func (.func 90) [] []) [v2] h1) fun v3 h4=>
 B1 (gy v3 (.int .i64 0)) fun v5=>
 CD v5 (
 some ((.str []),h4)) (
 J 1 (fun j6=>
 B1 (fa 0 (.ptr i0 0)) fun v7=>
 B1 (ld v7 h4) fun v8=>
 B1 (aV v8) fun v9=>
 J 1 (fun aX=>
 G8 J G cf aX (.ptr i0 0) .ah v8 v9 (.int .i64 0) h4) (fun yr akZ=>
 j6 yr akZ)) (fun AN M7=>
 B2 (cf (.func (.func 85) [] []) [AN,(.str [59])] M7) fun Qn PZ=>
 some (Qn,PZ)))
theorem aep (J:JT) (G:GT) (cf:CF) (a0:AV) (H:Hp):fG P J G aU an cf 55 [a0] H=P7 J G cf a0 H:=by kernel_rfl
theorem alJ {a0:AV} {H:Hp} {r:AV × Hp} (h:P7 JN GO cK a0 H=some r):cK (.func (.func 55) [] []) [a0] H=some r:=aT (first:=[]) (cap:=[]) ((aep JN GO _ a0 H).trans h)
noncomputable def NS (J:JT) (G:GT) (cf:CF) (a0 a1 a2:AV) (H:Hp):R:=
 B1 (bZ a1 a2) fun v0=>
 CD v0 (
 some ((.str []),H)) (
 B2 (cf (.func (.func 84) [] []) [a1] H) fun v1 h2=>
 B1 (qC a0 v1) fun v3=>
 some (v3,h2))
theorem Wp {a0 a1 a2:AV} {H:Hp} {r:AV × Hp} (h:NS JN GO cK a0 a1 a2 H=some r):cK (.func (.func 92) [] []) [a0,a1,a2] H=some r:=aT (first:=[]) (cap:=[]) (aa0 (by kernel_rfl) h)
noncomputable def II (J:JT) (G:GT) (cf:CF) (aG:K.Fn 2) (da:K.Fn 6) (kM:K.Fn 6) (Jn:K.Fn 10) (fO ji ie fH df dD dJ db eD dV:AV) (iR:Hp):R:=
 B1 (cJ dV eD) fun v63=>
 CD v63 (
 J 10 (fun j64=>
 J 10 (fun RU=>
 B1 (ia 1 db dV) fun jG=>
 B1 (ld jG iR) fun mH=>
 J 12 (fun Ek=>
 B1 (fl [(.int .i64 0),(.int .i64 0)] [(0,1,mH),(1,1,fH)]) fun l69=>
 BN (aL iR [(.int .i64 0),(.int .i64 0)] 231 0) fun i70 mc=>
 B1 (st 2 (.ptr i70 0) (.agg l69) mc) fun mn=>
 Ek fO ji ie fH mH (.ptr i70 0) df dD dJ db eD dV mn) (fun iF iM lC gM ft ff pn nK rf uH mT pC pK=>
 J 12 (fun Rs=>
 B1 (fa 0 iF) fun v87=>
 B1 (ld v87 pK) fun zB=>
 B1 (aV zB) fun xP=>
 B1 (nG xP (.int .i64 1)) fun sf=>
 B2 (cf (.func (.func 119) [] []) [ft,(.int .i64 0),sf] pK) fun v91 tG=>
 G v91 true (fun k93=>
 k93 ft tG) (fun xY qo=>
 G v91 true (fun k96=>
 k96 gM qo) (fun Gy DW=>
 G v91 true (fun k99=>
 B1 (gy xY Gy) fun GC=>
 k99 GC DW) (fun wI Un=>
 B1 (pk v91 wI (.bool false)) fun vR=>
 G vR true (fun NR=>
 B1 (fa 1 lC) fun v105=>
 NR v105 Un) (fun FG GN=>
 G vR true (fun ajh=>
 B1 (ld FG GN) fun v109=>
 ajh v109 GN) (fun Pq ML=>
 G vR true (fun akx=>
 B1 (aC 2 ff ML) fun vM=>
 akx vM ML) (fun rN CO=>
 G vR true (fun anZ=>
 B2 (cf (.func (.func 158) [] []) [Pq,rN] CO) fun v117 Hs=>
 anZ v117 Hs) (fun yn Fa=>
 G vR true (fun N8=>
 B1 (fW .not yn) fun zH=>
 N8 zH Fa) (fun wR xf=>
 B1 (pk vR wR (.bool false)) fun yI=>
 Rs iF iM lC gM ff pn nK rf uH mT pC yI xf) Fa) CO) ML) GN) Un) DW) qo) tG) (fun ja iT jD kI lP oX lJ uI uU qd qK vg Co=>
 CD vg (
 B1 (fa 1 jD) fun v139=>
 B1 (ld v139 Co) fun Dy=>
 B1 (aC 2 lP Co) fun v141=>
 B1 (fl [(.int .i64 0),(.int .i64 0)] [(0,2,v141)]) fun amW=>
 BN (aL Co amW 231 0) fun i143 IC=>
 B2 (gC 231 2 [(.int .i64 0),(.int .i64 0)] false Dy (.slice i143 0 1 1 true 2) IC) fun v145 yy=>
 B1 (fa 1 jD) fun EZ=>
 B1 (st 1 EZ v145 yy) fun JW=>
 RU ja iT jD kI oX lJ uI uU qd qK JW) (
 RU ja iT jD kI oX lJ uI uU qd qK Co)))) (fun GK Gk GJ FZ DN Mt afI aeR Rm M3 OI=>
 j64 GK Gk GJ FZ DN Mt afI aeR Rm M3 OI)) (fun Hg Nh En Hy Hf NV QY Hk EL HU aha=>
 B1 (bW HU (.int .i64 1)) fun v171=>
 Jn Hg Nh En Hy Hf NV QY Hk EL v171 aha)) (
 kM fO ji ie df dD dJ iR)
noncomputable def GL (J:JT) (G:GT) (cf:CF) (aG:K.Fn 2) (da:K.Fn 6) (kM:K.Fn 6):K.Fn 10:=dT P an J G cf 127 [1,1,0,1,0,0,1,1,0,0,1,1,0,0] [1,2,3,4,14,15,16,22,23,24] (fun q t H=>match Nat.beq q 2 with | true=>app 6 kM (ax [1,2,3,14,15,16] t) H | false=>(fun q t H=>match Nat.beq q 1 with | true=>app 6 da (ax [1,2,3,14,15,16] t) H | false=>(fun q t H=>match Nat.beq q 0 with | true=>app 2 aG (ax [2,3] t) H | false=>(fun _ _ _=>none) q t H) q t H) q t H)
theorem afx (J:JT) (G:GT) (cf:CF) (aG:K.Fn 2) (da:K.Fn 6) (kM:K.Fn 6) (Jn:K.Fn 10) (fO ji ie fH df dD dJ db eD dV:AV) (iR:Hp):kT P an J G cf 127 [1,1,0,1,0,0,1,1,0,0,1,1,0,0] [1,2,3,4,14,15,16,22,23,24] (fun q t H=>match Nat.beq q 2 with | true=>app 6 kM (ax [1,2,3,14,15,16] t) H | false=>(fun q t H=>match Nat.beq q 1 with | true=>app 6 da (ax [1,2,3,14,15,16] t) H | false=>(fun q t H=>match Nat.beq q 0 with | true=>app 2 aG (ax [2,3] t) H | false=>(fun _ _ _=>none) q t H) q t H) q t H) Jn [fO,ji,ie,fH,df,dD,dJ,db,eD,dV] iR=II J G cf aG da kM Jn fO ji ie fH df dD dJ db eD dV iR:=by kernel_rfl
theorem SA (cf:CF) (aG:K.Fn 2) (da:K.Fn 6) (kM:K.Fn 6) (fO ji ie fH df dD dJ db eD dV:AV) (iR:Hp):GL JN GO cf aG da kM fO ji ie fH df dD dJ db eD dV iR=II JN GO cf aG da kM (GL JN GO cf aG da kM) fO ji ie fH df dD dJ db eD dV iR:=aa0 (b:=app 10 (GL JN GO cf aG da kM) [fO,ji,ie,fH,df,dD,dJ,db,eD,dV] iR) (by kernel_rfl) ((ey cf _ _ _ _ [fO,ji,ie,fH,df,dD,dJ,db,eD,dV] rfl iR).trans (afx JN GO cf aG da kM _ fO ji ie fH df dD dJ db eD dV iR))
noncomputable def Qu (J:JT) (G:GT) (cf:CF) (aG:K.Fn 2) (fe:K.Fn 6) (aE bp bI bP cO cB:AV) (gF:Hp):R:=
 B1 (cJ cB cO) fun v29=>
 CD v29 (
 J 6 (fun A6=>
 J 6 (fun da=>
 J 8 (fun gw=>
 B1 (ia 6 bP cB) fun eO=>
 B1 (aC 6 eO gF) fun eA=>
 BN (aL gF [(.str []),.ah,(.int .i64 0),(.int .i64 0),(.int .i64 0),(.str [])] 99 0) fun i35 mI=>
 B1 (st 6 (.ptr i35 0) eA mI) fun iB=>
 gw aE bp bI cB (.ptr i35 0) bP cO cB iB) (fun bV dm dd dS eK dX gD fq iK=>
 B1 (fa 1 eK) fun ma=>
 B1 (ld ma iK) fun gk=>
 B1 (aV gk) fun v49=>
 J 6 (fun kM=>
 GL J G cf aG da kM bV dm dd dS dX gD fq gk v49 (.int .i64 0) iK) (fun Dz yr Cz AN Mb QT PZ=>
 da Dz yr Cz AN Mb QT PZ))) (fun Pg OG aie adJ akQ amx NP=>
 A6 Pg OG aie adJ akQ amx NP)) (fun N4 LA MI LU OZ Nt akt=>
 B1 (bW Nt (.int .i64 1)) fun v193=>
 fe N4 LA MI LU OZ v193 akt)) (
 aG bp bI gF)
noncomputable def EN (J:JT) (G:GT) (cf:CF) (aG:K.Fn 2):K.Fn 6:=dT P an J G cf 127 [1,1,0,1,0,0] [1,2,3,14,15,16] (fun q t H=>match Nat.beq q 0 with | true=>app 2 aG (ax [2,3] t) H | false=>(fun _ _ _=>none) q t H)
theorem V4 (cf:CF) (aG:K.Fn 2) (aE bp bI bP cO cB:AV) (gF:Hp):EN JN GO cf aG aE bp bI bP cO cB gF=Qu JN GO cf aG (EN JN GO cf aG) aE bp bI bP cO cB gF:=aa0 (b:=app 6 (EN JN GO cf aG) [aE,bp,bI,bP,cO,cB] gF) (by kernel_rfl) ((ey cf 127 [1,1,0,1,0,0] [1,2,3,14,15,16] _ [aE,bp,bI,bP,cO,cB] rfl gF).trans (by kernel_rfl))
noncomputable def Wb (J:JT) (G:GT) (cf:CF) (a0:AV) (H:Hp):R:=
 BN (bx 72 a0 H) fun i0 h1=>
 BN (aL h1 [(.int .i64 0),.ah] 201 0) fun i2 h3=>
 J 3 (fun j4=>
 B1 (fa 0 (.ptr i0 0)) fun v5=>
 B1 (ld v5 h3) fun v6=>
 B1 (aV v6) fun v7=>
 B1 (fl [(.int .i64 0),.ah] [(0,1,v7)]) fun l8=>
 BN (aL h3 [(.int .i64 0),.ah] 201 0) fun i9 cN=>
 B1 (st 2 (.ptr i9 0) (.agg l8) cN) fun fM=>
 j4 (.ptr i0 0) (.ptr i2 0) (.ptr i9 0) fM) (fun bA bu bF gV=>
 J 2 (fun aR=>
 B1 (fa 0 bA) fun fx=>
 B1 (ld fx gV) fun dA=>
 B1 (aV dA) fun eN=>
 J 2 (fun aG=>
 EN J G cf aG bA bu bF dA eN (.int .i64 0) gV) (fun ajU Q2 agA=>
 aR ajU Q2 agA)) (fun Kw QO Lc=>
 B1 (aC 2 QO Lc) fun acY=>
 B1 (st 2 Kw acY Lc) fun Vv=>
 B1 (aC 2 Kw Vv) fun amR=>
 some (amR,Vv)))
theorem ahn {a0:AV} {H:Hp} {r:AV × Hp} (h:Wb JN GO cK a0 H=some r):cK (.func (.func 127) [] []) [a0] H=some r:=aT (first:=[]) (cap:=[]) (aa0 (by kernel_rfl) h)
noncomputable def Kf (J:JT) (G:GT) (cf:CF) (a0:AV) (H:Hp):R:=
 BN (bx 72 a0 H) fun i0 h1=>
 BN (aL h1 [.ah,(.int .i64 0),.ah,.ah] 75 0) fun i2 h3=>
 J 2 (fun j4=>
 B1 (aC 1 (.ptr i0 0) h3) fun v5=>
 B2 (cf (.func (.func 90) [] []) [v5] h3) fun v6 h7=>
 B1 (gy v6 (.int .i64 0)) fun v8=>
 CD v8 (
 B1 (fl [.ah,(.int .i64 0),.ah,.ah] []) fun l9=>
 B1 (st 4 (.ptr i2 0) (.agg l9) h7) fun cN=>
 B1 (aC 4 (.ptr i2 0) cN) fun v11=>
 some (.tuple [v11,v6],cN)) (
 j4 (.ptr i0 0) (.ptr i2 0) h7)) (fun bA bu jL=>
 J 2 (fun fZ=>
 B1 (aC 1 bA jL) fun dH=>
 B1 (fa 0 bA) fun fx=>
 B1 (ld fx jL) fun dA=>
 B1 (aV dA) fun eN=>
 B2 (xc [(.int .i64 0),(.int .i64 0),(.int .i64 0),(.str [])] 132 4 eN eN jL) fun v20 kc=>
 B1 (fl [.ah,(.int .i64 0),.ah,.ah] [(0,1,dH),(2,1,v20)]) fun LS=>
 B2 (cf (.func (.func 97) [] []) [(.agg LS)] kc) fun v23 iZ=>
 BN (aL iZ [.ah,(.int .i64 0),.ah,.ah] 75 0) fun i25 er=>
 B1 (st 4 (.ptr i25 0) v23 er) fun eP=>
 B1 (aC 1 bA kc) fun v28=>
 SM dH v28 <|
 fZ bu (.ptr i25 0) eP) (fun cP bY gz=>
 B2 (cf (.func (.func 106) [] []) [bY] gz) fun v32 pg=>
 B1 (aC 4 bY pg) fun eA=>
 B1 (st 4 cP eA pg) fun iw=>
 B1 (aC 4 cP iw) fun v36=>
 some (.tuple [v36,(.int .i64 0)],iw)))
theorem ahU (J:JT) (G:GT) (cf:CF) (a0:AV) (H:Hp):fG P J G aU an cf 76 [a0] H=Kf J G cf a0 H:=by kernel_rfl
theorem Yw {a0:AV} {H:Hp} {r:AV × Hp} (h:Kf JN GO cK a0 H=some r):cK (.func (.func 76) [] []) [a0] H=some r:=aT (first:=[]) (cap:=[]) ((ahU JN GO _ a0 H).trans h)
noncomputable def Ig (J:JT) (G:GT) (cf:CF) (iC:K.Fn 2) (vh:K.Fn 5) (bY bO eB cH dc:AV) (iw:Hp):R:=
 B1 (cJ dc cH) fun v36=>
 CD v36 (
 J 5 (fun GB=>
 J 7 (fun Oh=>
 B1 (ia 6 eB dc) fun eQ=>
 B1 (aC 6 eQ iw) fun v40=>
 BN (aL iw [(.str []),.ah,(.int .i64 0),(.int .i64 0),(.int .i64 0),(.str [])] 99 0) fun i41 ez=>
 B1 (st 6 (.ptr i41 0) v40 ez) fun zo=>
 Oh bY bO dc (.ptr i41 0) eB cH dc zo) (fun gD fq fK gO gZ jz kH mV=>
 B1 (fa 0 gD) fun gi=>
 B1 (fa 0 gi) fun v53=>
 B1 (ld v53 mV) fun iA=>
 B1 (fa 1 gO) fun hU=>
 B1 (ld hU mV) fun mb=>
 B2 (cf (.func (.func 137) [] []) [mb] mV) fun v57 lT=>
 B1 (ia 6 iA fK) fun v59=>
 B1 (fa 1 v59) fun gL=>
 B1 (st 1 gL v57 lT) fun iL=>
 B1 (ld v53 lT) fun jd=>
 SM iA jd <|
 GB gD fq gZ jz kH iL)) (fun gx fL fY qE jI vN=>
 B1 (bW jI (.int .i64 1)) fun lO=>
 vh gx fL fY qE lO vN)) (
 iC bY bO iw)
noncomputable def EA (J:JT) (G:GT) (cf:CF) (iC:K.Fn 2):K.Fn 5:=dT P an J G cf 97 [1,1,0,1,0,0] [1,2,13,14,15] (fun q t H=>match Nat.beq q 0 with | true=>app 2 iC (ax [1,2] t) H | false=>(fun _ _ _=>none) q t H)
theorem ajA (J:JT) (G:GT) (cf:CF) (iC:K.Fn 2) (vh:K.Fn 5) (bY bO eB cH dc:AV) (iw:Hp):kT P an J G cf 97 [1,1,0,1,0,0] [1,2,13,14,15] (fun q t H=>match Nat.beq q 0 with | true=>app 2 iC (ax [1,2] t) H | false=>(fun _ _ _=>none) q t H) vh [bY,bO,eB,cH,dc] iw=Ig J G cf iC vh bY bO eB cH dc iw:=by kernel_rfl
theorem WY (cf:CF) (iC:K.Fn 2) (bY bO eB cH dc:AV) (iw:Hp):EA JN GO cf iC bY bO eB cH dc iw=Ig JN GO cf iC (EA JN GO cf iC) bY bO eB cH dc iw:=aa0 (b:=app 5 (EA JN GO cf iC) [bY,bO,eB,cH,dc] iw) (by kernel_rfl) ((ey cf _ _ _ _ [bY,bO,eB,cH,dc] rfl iw).trans (ajA JN GO cf iC _ bY bO eB cH dc iw))
noncomputable def P9 (J:JT) (G:GT) (cf:CF) (a0:AV) (H:Hp):R:=
 BN (bx 75 a0 H) fun i0 h1=>
 BN (aL h1 [.ah,(.int .i64 0),.ah,.ah] 75 0) fun i2 h3=>
 J 2 (fun j4=>
 B1 (fa 0 (.ptr i0 0)) fun v5=>
 B1 (fa 0 v5) fun v6=>
 B1 (ld v6 h3) fun v7=>
 B2 (cf (.func (.func 136) [] []) [v7] h3) fun v8 h9=>
 B1 (fa 0 (.ptr i0 0)) fun v10=>
 B1 (fa 0 v10) fun v11=>
 B1 (st 1 v11 v8 h9) fun dP=>
 j4 (.ptr i0 0) (.ptr i2 0) dP) (fun bu bF gV=>
 J 2 (fun aR=>
 J 5 (fun jg=>
 B1 (fa 0 bu) fun dA=>
 B1 (fa 0 dA) fun eN=>
 B1 (ld eN gV) fun v20=>
 B1 (aV v20) fun v21=>
 jg bu bF v20 v21 (.int .i64 0) gV) (fun aE bp bI bP cO eP=>
 J 2 (fun iC=>
 EA J G cf iC aE bp bI bP cO eP) (fun kV pT mn=>
 aR kV pT mn))) (fun iF iM oJ=>
 J 2 (fun Mm=>
 B1 (fa 2 iF) fun wC=>
 B1 (ld wC oJ) fun tw=>
 B2 (cf (.func (.func 138) [] []) [tw] oJ) fun uB xe=>
 B1 (fa 2 iF) fun rW=>
 B1 (st 1 rW uB xe) fun sM=>
 Mm iF iM sM) (fun mT pC pK=>
 J 2 (fun Rs=>
 B1 (fa 3 mT) fun v87=>
 B1 (ld v87 pK) fun zB=>
 B2 (cf (.func (.func 30) [] []) [zB] pK) fun xP yN=>
 B1 (fa 3 mT) fun v91=>
 B1 (st 1 v91 xP yN) fun tG=>
 Rs mT pC tG) (fun qu oK qo=>
 B1 (aC 4 qu qo) fun py=>
 B1 (st 4 oK py qo) fun th=>
 B1 (aC 4 oK th) fun KP=>
 some (KP,th)))))
theorem ajO (J:JT) (G:GT) (cf:CF) (a0:AV) (H:Hp):fG P J G aU an cf 97 [a0] H=P9 J G cf a0 H:=by kernel_rfl
theorem aeY {a0:AV} {H:Hp} {r:AV × Hp} (h:P9 JN GO cK a0 H=some r):cK (.func (.func 97) [] []) [a0] H=some r:=aT (first:=[]) (cap:=[]) ((ajO JN GO _ a0 H).trans h)
noncomputable def yf (J:JT) (G:GT) (cf:CF) (aR:K.Fn 2) (jg:K.Fn 5) (aF aM bB aI aE:AV) (br:Hp):R:=
 B1 (cJ aE aI) fun v24=>
 CD v24 (
 J 5 (fun xZ=>
 J 7 (fun xK=>
 B1 (ia 6 bB aE) fun v27=>
 B1 (aC 6 v27 br) fun v28=>
 BN (aL br [(.str []),.ah,(.int .i64 0),(.int .i64 0),(.int .i64 0),(.str [])] 99 0) fun i29 kO=>
 B1 (st 6 (.ptr i29 0) v28 kO) fun gz=>
 xK aF aM aE (.ptr i29 0) bB aI aE gz) (fun eB cH dc dh bQ bT bV jj=>
 J 8 (fun qD=>
 B1 (fa 1 dh) fun v41=>
 B1 (ld v41 jj) fun eX=>
 B2 (cf (.func (.func 143) [] []) [eX,(.func (.func 144) [] [eB])] jj) fun iS eL=>
 qD eB cH dc dh iS bQ bT bV eL) (fun fq fK gO gZ jz kH jM fO fE=>
 J 6 (fun dW=>
 J 7 (fun q8=>
 B1 (ld fq fE) fun mb=>
 B1 (aW mb) fun v57=>
 B1 (fa 2 v57) fun kL=>
 B1 (ld kL fE) fun v59=>
 B1 (ia 4 v59 gO) fun gL=>
 B1 (fa 0 gL) fun nX=>
 B1 (ld nX fE) fun jd=>
 B1 (bZ jd (.int .i64 0)) fun v63=>
 n0 v63 true (
 B1 (fW .not jz) fun v64=>
 n0 v64 true (
 B1 (fa 5 gZ) fun nz=>
 B1 (ld nz fE) fun jG=>
 B1 (seq jG (.str [])) fun mH=>
 n0 mH false (
 B1 (ld fq fE) fun mZ=>
 B1 (aW mZ) fun lO=>
 B1 (fa 3 lO) fun v70=>
 B1 (ld v70 fE) fun ng=>
 B1 (fa 5 gZ) fun v72=>
 B1 (ld v72 fE) fun jO=>
 B2 (cf (.func (.func 94) [] []) [ng,jO] fE) fun jq oJ=>
 q8 fq fK gO kH jM fO jq oJ) (
 q8 fq fK gO kH jM fO (.bool true) fE)) (
 q8 fq fK gO kH jM fO (.bool false) fE)) (
 q8 fq fK gO kH jM fO (.bool false) fE)) (fun gM ft ff pn nK rf uH sW=>
 CD uH (
 B1 (ld gM sW) fun zM=>
 B1 (aW zM) fun v85=>
 B1 (fa 2 v85) fun wB=>
 B1 (ld wB sW) fun v87=>
 B1 (ia 4 v87 ff) fun zB=>
 B1 (fa 0 zB) fun xP=>
 B1 (st 1 xP (.int .i64 1) sW) fun yN=>
 dW gM ft ff pn nK rf yN) (
 dW gM ft ff pn nK rf sW))) (fun CM nI qu oK pA qN th=>
 G nI true (fun NG=>
 B1 (ld CM th) fun FN=>
 NG FN th) (fun GC yP=>
 G nI true (fun MV=>
 B1 (aW GC) fun vR=>
 MV vR yP) (fun xq xR=>
 G nI true (fun Ma=>
 B1 (fa 2 xq) fun v107=>
 Ma v107 xR) (fun xy DF=>
 G nI true (fun Ph=>
 B1 (ld xy DF) fun Bo=>
 Ph Bo DF) (fun xM zd=>
 G nI true (fun ago=>
 ago qu zd) (fun u7 AH=>
 G nI true (fun alU=>
 B1 (ia 4 xM u7) fun CW=>
 alU CW AH) (fun yn Fa=>
 G nI true (fun N8=>
 B1 (fa 0 yn) fun zH=>
 N8 zH Fa) (fun wR xf=>
 G nI true (fun anI=>
 B1 (ld wR xf) fun Mj=>
 anI Mj xf) (fun v127 Ba=>
 G nI true (fun ae5=>
 B1 (bZ v127 (.int .i64 3)) fun v130=>
 ae5 v130 Ba) (fun v131 Bv=>
 B1 (pk nI v131 (.bool false)) fun LK=>
 xZ CM LK oK pA qN Bv) Ba) xf) Fa) AH) zd) DF) xR) yP) th)))) (fun uU qd qK vg Cx yg=>
 B1 (bW Cx (.int .i64 1)) fun Dy=>
 jg uU qd qK vg Dy yg)) (
 aR aF aM br)
noncomputable def uW (J:JT) (G:GT) (cf:CF) (aR:K.Fn 2):K.Fn 5:=dT P an J G cf 106 [1,1,0,1,0,0] [1,2,10,11,12] (fun q t H=>match Nat.beq q 0 with | true=>app 2 aR (ax [1,2] t) H | false=>(fun _ _ _=>none) q t H)
theorem akF (J:JT) (G:GT) (cf:CF) (aR:K.Fn 2) (jg:K.Fn 5) (aF aM bB aI aE:AV) (br:Hp):kT P an J G cf 106 [1,1,0,1,0,0] [1,2,10,11,12] (fun q t H=>match Nat.beq q 0 with | true=>app 2 aR (ax [1,2] t) H | false=>(fun _ _ _=>none) q t H) jg [aF,aM,bB,aI,aE] br=yf J G cf aR jg aF aM bB aI aE br:=by kernel_rfl
theorem Qp (cf:CF) (aR:K.Fn 2) (aF aM bB aI aE:AV) (br:Hp):uW JN GO cf aR aF aM bB aI aE br=yf JN GO cf aR (uW JN GO cf aR) aF aM bB aI aE br:=aa0 (b:=app 5 (uW JN GO cf aR) [aF,aM,bB,aI,aE] br) (by kernel_rfl) ((ey cf _ _ _ _ [aF,aM,bB,aI,aE] rfl br).trans (akF JN GO cf aR _ aF aM bB aI aE br))
noncomputable def Iv (J:JT) (G:GT) (cf:CF) (a0:AV) (H:Hp):R:=
 BN (bx 146 a0 H) fun i0 h1=>
 J 2 (fun j2=>
 J 5 (fun j3=>
 B1 (ld (.ptr i0 0) h1) fun v4=>
 B1 (aW v4) fun v5=>
 B1 (fa 0 v5) fun v6=>
 B1 (fa 0 v6) fun v7=>
 B1 (ld v7 h1) fun v8=>
 B1 (aV v8) fun v9=>
 j3 (.ptr i0 0) (.bool true) v8 v9 (.int .i64 0) h1) (fun cq bL bA bu bF gV=>
 J 2 (fun aR=>
 uW J G cf aR cq bL bA bu bF gV) (fun EF Pm JO=>
 j2 EF Pm JO))) (fun Fk QQ yy=>
 CD QQ (
 B1 (ld Fk yy) fun EZ=>
 B1 (aW EZ) fun v148=>
 B1 (fa 1 v148) fun O7=>
 B1 (st 1 O7 (.int .i64 1) yy) fun JR=>
 some (.tuple [],JR)) (
 some (.tuple [],yy)))
theorem abl (J:JT) (G:GT) (cf:CF) (a0:AV) (H:Hp):fG P J G aU an cf 106 [a0] H=Iv J G cf a0 H:=by kernel_rfl
theorem X5 {a0:AV} {H:Hp} {r:AV × Hp} (h:Iv JN GO cK a0 H=some r):cK (.func (.func 106) [] []) [a0] H=some r:=aT (first:=[]) (cap:=[]) ((abl JN GO _ a0 H).trans h)
noncomputable def aav (J:JT) (G:GT) (cf:CF) (a0 a1:AV) (H:Hp):R:=
 B1 (ld a1 H) fun v0=>
 B1 (aW v0) fun v1=>
 B1 (fa 2 v1) fun v2=>
 B1 (ld v2 H) fun v3=>
 B1 (ia 4 v3 a0) fun v4=>
 B1 (fa 0 v4) fun v5=>
 B1 (ld v5 H) fun v6=>
 B1 (gy v6 (.int .i64 3)) fun v7=>
 some (v7,H)
theorem afQ {a0 a1:AV} {H:Hp} {r:AV × Hp} (h:aav JN GO cK a0 a1 H=some r):cK (.func (.func 144) [] [a1]) [a0] H=some r:=aT (first:=[]) (cap:=[a1]) (aa0 (by kernel_rfl) h)
noncomputable def ZQ (J:JT) (G:GT) (cf:CF) (a0 a1:AV) (H:Hp):R:=
 BN (bx 75 a0 H) fun i0 h1=>
 J 0 (fun j2=>
 J 2 (fun j3=>
 B1 (cJ a1 (.int .i64 0)) fun v4=>
 G v4 false (fun k5=>
 k5 a1 h1) (fun v6 h7=>
 G v4 false (fun k8=>
 B1 (fa 2 (.ptr i0 0)) fun v9=>
 k8 v9 h7) (fun v10 fM=>
 G v4 false (fun k12=>
 B1 (ld v10 fM) fun dN=>
 k12 dN fM) (fun cL gV=>
 G v4 false (fun Rf=>
 B1 (aV cL) fun fx=>
 Rf fx gV) (fun dA dC=>
 G v4 false (fun PM=>
 B1 (lY v6 dA) fun v21=>
 PM v21 dC) (fun v22 br=>
 B1 (pk v4 (.bool true) v22) fun v24=>
 j3 (.ptr i0 0) v24 br) dC) gV) fM) h7) h1) (fun bP cO eP=>
 CD cO (
 some ((.int .i64 1),eP)) (
 B1 (fa 1 bP) fun v28=>
 B1 (ld v28 eP) fun v29=>
 B1 (gy v29 (.int .i64 0)) fun v30=>
 CD v30 (
 some ((.int .i64 9),eP)) (
 j2  eP)))) (fun  gz=>
 some ((.int .i64 0),gz))
theorem aed {a0 a1:AV} {H:Hp} {r:AV × Hp} (h:ZQ JN GO cK a0 a1 H=some r):cK (.func (.func 108) [] []) [a0,a1] H=some r:=aT (first:=[]) (cap:=[]) (aa0 (by kernel_rfl) h)
noncomputable def I5 (J:JT) (G:GT) (cf:CF) (a0 a1 a2:AV) (H:Hp):R:=
 BN (bx 75 a0 H) fun i0 h1=>
 J 3 (fun j2=>
 B1 (aC 4 (.ptr i0 0) h1) fun v3=>
 B2 (cf (.func (.func 108) [] []) [v3,a1] h1) fun v4 h5=>
 B1 (gy v4 (.int .i64 0)) fun v6=>
 CD v6 (
 some (v4,h5)) (
 j2 a1 a2 (.ptr i0 0) h5)) (fun x7 x8 x9 cN=>
 J 0 (fun mE=>
 J 2 (fun cg=>
 B1 (fa 2 x9) fun dN=>
 B1 (ld dN cN) fun cL=>
 B1 (ia 4 cL x7) fun ei=>
 B1 (aC 4 ei cN) fun dH=>
 BN (aL cN [(.int .i64 0),(.int .i64 0),(.int .i64 0),(.str [])] 132 0) fun i17 gW=>
 B1 (st 4 (.ptr i17 0) dH gW) fun dC=>
 cg x8 (.ptr i17 0) dC) (fun bB aI jc=>
 J 1 (fun ef=>
 B1 (fa 0 aI) fun v24=>
 B1 (ld v24 jc) fun v25=>
 B1 (gy v25 (.int .i64 2)) fun v26=>
 G v26 false (fun MS=>
 B1 (fa 1 aI) fun v28=>
 MS v28 jc) (fun v29 kO=>
 G v26 false (fun uR=>
 B1 (ld v29 kO) fun v32=>
 uR v32 kO) (fun eO fQ=>
 G v26 false (fun rT=>
 rT bB fQ) (fun v36 iB=>
 G v26 false (fun xB=>
 B1 (gy eO v36) fun eQ=>
 xB eQ iB) (fun v40 fP=>
 B1 (pk v26 (.bool true) v40) fun eX=>
 ef eX fP) iB) fQ) kO) jc) (fun dX eL=>
 CD dX (
 some ((.int .i64 8),eL)) (
 mE  eL)))) (fun  jX=>
 some ((.int .i64 0),jX)))
theorem alD (J:JT) (G:GT) (cf:CF) (a0 a1 a2:AV) (H:Hp):fG P J G aU an cf 109 [a0,a1,a2] H=I5 J G cf a0 a1 a2 H:=by kernel_rfl
theorem Zc {a0 a1 a2:AV} {H:Hp} {r:AV × Hp} (h:I5 JN GO cK a0 a1 a2 H=some r):cK (.func (.func 109) [] []) [a0,a1,a2] H=some r:=aT (first:=[]) (cap:=[]) ((alD JN GO _ a0 a1 a2 H).trans h)
noncomputable def BG (J:JT) (G:GT) (cf:CF) (a0 a1 a2 a3:AV) (H:Hp):R:=
 BN (bx 75 a0 H) fun i0 h1=>
 BN (aL h1 [.ah,(.int .i64 0),.ah,.ah] 75 0) fun i2 h3=>
 J 5 (fun j4=>
 B1 (aC 4 (.ptr i0 0) h3) fun v5=>
 B2 (cf (.func (.func 108) [] []) [v5,a1] h3) fun v6 h7=>
 B1 (gy v6 (.int .i64 0)) fun v8=>
 CD v8 (
 B1 (fl [.ah,(.int .i64 0),.ah,.ah] []) fun l9=>
 B1 (st 4 (.ptr i2 0) (.agg l9) h7) fun cN=>
 B1 (aC 4 (.ptr i2 0) cN) fun v11=>
 some (.tuple [v11,v6],cN)) (
 j4 a1 a2 a3 (.ptr i0 0) (.ptr i2 0) h7)) (fun bA bu bF bw aZ dQ=>
 J 6 (fun AA=>
 B1 (fa 2 bw) fun eN=>
 B1 (ld eN dQ) fun v20=>
 B1 (ia 4 v20 bA) fun v21=>
 B1 (aC 4 v21 dQ) fun v22=>
 BN (aL dQ [(.int .i64 0),(.int .i64 0),(.int .i64 0),(.str [])] 132 0) fun i23 iZ=>
 B1 (st 4 (.ptr i23 0) v22 iZ) fun dU=>
 AA bA bu bF bw aZ (.ptr i23 0) dU) (fun cO cB dY cP bY bO cU=>
 J 6 (fun G5=>
 B1 (fa 0 bO) fun eA=>
 B1 (ld eA cU) fun v35=>
 B1 (gy v35 (.int .i64 1)) fun v36=>
 CD v36 (
 B1 (fl [.ah,(.int .i64 0),.ah,.ah] []) fun Mf=>
 B1 (st 4 bY (.agg Mf) cU) fun eT=>
 B1 (aC 4 bY eT) fun eQ=>
 some (.tuple [eQ,(.int .i64 4)],eT)) (
 J 7 (fun qD=>
 B1 (fa 1 bO) fun v41=>
 B1 (ld v41 cU) fun eX=>
 B1 (bW eX (.int .i64 1)) fun iS=>
 B1 (gy cB iS) fun v44=>
 qD cO cB dY cP bY bO v44 cU) (fun fq fK gO gZ jz kH jM sC=>
 CD jM (
 B1 (fl [.ah,(.int .i64 0),.ah,.ah] []) fun l53=>
 B1 (st 4 jz (.agg l53) sC) fun xD=>
 B1 (aC 4 jz xD) fun hU=>
 some (.tuple [hU,(.int .i64 8)],xD)) (
 G5 fq fK gO gZ jz kH sC)))) (fun df dD dJ db eD dV iR=>
 B1 (aC 4 db iR) fun v63=>
 B2 (cf (.func (.func 97) [] []) [v63] iR) fun v64 lM=>
 B1 (st 4 db v64 lM) fun fI=>
 J 4 (fun F3=>
 B1 (fa 0 db) fun mZ=>
 B1 (fa 0 mZ) fun lO=>
 B1 (ld lO fI) fun v70=>
 B1 (ia 6 v70 df) fun ng=>
 B1 (fa 3 ng) fun v72=>
 B1 (ld v72 fI) fun jO=>
 B1 (bW dJ jO) fun jq=>
 B1 (fa 0 dV) fun v75=>
 B1 (st 1 v75 (.int .i64 2) fI) fun mw=>
 B1 (fa 1 dV) fun wC=>
 B1 (st 1 wC dD mw) fun xz=>
 B1 (fa 2 dV) fun uB=>
 B1 (st 1 uB jq xz) fun xe=>
 B1 (ld lO mw) fun rW=>
 SM v70 rW <|
 B1 (ld v72 mw) fun oq=>
 SM jO oq <|
 B1 (ld lO xz) fun oC=>
 SM v70 oC <|
 B1 (ld v72 xz) fun zM=>
 SM jO zM <|
 F3 df db eD dV xe) (fun pH pF sr nj rA=>
 J 2 (fun KX=>
 B1 (fa 2 pF) fun v91=>
 B1 (ld v91 rA) fun Bm=>
 B1 (aC 4 nj rA) fun v93=>
 B1 (ia 4 Bm pH) fun xY=>
 B1 (st 4 xY v93 rA) fun qo=>
 KX pF sr qo) (fun qN rZ DW=>
 B1 (aC 4 qN DW) fun FN=>
 B1 (st 4 rZ FN DW) fun yY=>
 B1 (aC 4 rZ yY) fun wI=>
 some (.tuple [wI,(.int .i64 0)],yY))))))
theorem ajj (J:JT) (G:GT) (cf:CF) (a0 a1 a2 a3:AV) (H:Hp):fG P J G aU an cf 78 [a0,a1,a2,a3] H=BG J G cf a0 a1 a2 a3 H:=by kernel_rfl
theorem IP {a0 a1 a2 a3:AV} {H:Hp} {r:AV × Hp} (h:BG JN GO cK a0 a1 a2 a3 H=some r):cK (.func (.func 78) [] []) [a0,a1,a2,a3] H=some r:=aT (first:=[]) (cap:=[]) ((ajj JN GO _ a0 a1 a2 a3 H).trans h)
noncomputable def Jk (J:JT) (G:GT) (cf:CF) (a0 a1 a2 a3:AV) (H:Hp):R:=
 BN (bx 75 a0 H) fun i0 h1=>
 BN (aL h1 [.ah,(.int .i64 0),.ah,.ah] 75 0) fun i2 h3=>
 J 5 (fun j4=>
 J 6 (fun j5=>
 B1 (aC 4 (.ptr i0 0) h3) fun v6=>
 B2 (cf (.func (.func 109) [] []) [v6,a1,a2] h3) fun v7 h8=>
 j5 a1 a2 a3 (.ptr i0 0) (.ptr i2 0) v7 h8) (fun x9 cq bL bA bu bF gV=>
 B1 (gy bF (.int .i64 0)) fun dH=>
 CD dH (
 B1 (fl [.ah,(.int .i64 0),.ah,.ah] []) fun l17=>
 B1 (st 4 bu (.agg l17) gV) fun gW=>
 B1 (aC 4 bu gW) fun eN=>
 some (.tuple [eN,bF],gW)) (
 j4 x9 cq bL bA bu gV))) (fun bB aI aE bp bI dU=>
 B1 (aC 4 bp dU) fun v26=>
 B2 (cf (.func (.func 97) [] []) [v26] dU) fun v27 gF=>
 B1 (st 4 bp v27 gF) fun dL=>
 J 2 (fun A6=>
 B1 (fa 2 bp) fun v31=>
 B1 (ld v31 dL) fun v32=>
 B1 (fl [(.int .i64 0),(.int .i64 0),(.int .i64 0),(.str [])] [(0,1,(.int .i64 3)),(1,1,aI),(3,1,aE)]) fun OU=>
 B1 (ia 4 v32 bB) fun eA=>
 B1 (st 4 eA (.agg OU) dL) fun iw=>
 A6 bp bI iw) (fun bQ bT eT=>
 B2 (cf (.func (.func 106) [] []) [bQ] eT) fun eQ nO=>
 B1 (aC 4 bQ nO) fun v41=>
 B1 (st 4 bT v41 nO) fun ez=>
 B1 (aC 4 bT ez) fun iS=>
 some (.tuple [iS,(.int .i64 0)],ez)))
theorem ajd (J:JT) (G:GT) (cf:CF) (a0 a1 a2 a3:AV) (H:Hp):fG P J G aU an cf 79 [a0,a1,a2,a3] H=Jk J G cf a0 a1 a2 a3 H:=by kernel_rfl
theorem Xi {a0 a1 a2 a3:AV} {H:Hp} {r:AV × Hp} (h:Jk JN GO cK a0 a1 a2 a3 H=some r):cK (.func (.func 79) [] []) [a0,a1,a2,a3] H=some r:=aT (first:=[]) (cap:=[]) ((ajd JN GO _ a0 a1 a2 a3 H).trans h)
noncomputable def Ic (J:JT) (G:GT) (cf:CF) (a0 a1 a2:AV) (H:Hp):R:=
 J 4 (fun j0=>
 B1 (aW a0) fun v1=>
 B1 (fa 2 v1) fun v2=>
 B1 (ld v2 H) fun v3=>
 B1 (ia 4 v3 a1) fun v4=>
 B1 (aW a0) fun v5=>
 B1 (fa 0 v5) fun v6=>
 B1 (fa 0 v6) fun v7=>
 B1 (ld v7 H) fun v8=>
 B1 (ia 6 v8 a1) fun v9=>
 B1 (aC 6 v9 H) fun v10=>
 BN (aL H [(.str []),.ah,(.int .i64 0),(.int .i64 0),(.int .i64 0),(.str [])] 99 0) fun i11 dP=>
 B1 (st 6 (.ptr i11 0) v10 dP) fun eZ=>
 j0 a0 a2 v4 (.ptr i11 0) eZ) (fun bF bw aZ bh gW=>
 J 2 (fun cG=>
 J 5 (fun aG=>
 B1 (aW aZ) fun v21=>
 B1 (fa 1 v21) fun v22=>
 B1 (ld v22 gW) fun v23=>
 B1 (fa 2 bh) fun v24=>
 B1 (ld v24 gW) fun v25=>
 B1 (oN v23 v25) fun v26=>
 aG bF bw aZ bh v26 gW) (fun cB dY cP bY bO cU=>
 CD bO (
 B1 (fa 4 bY) fun eO=>
 B1 (ld eO cU) fun eA=>
 B1 (aW cP) fun v35=>
 B1 (fa 1 v35) fun v36=>
 B1 (ld v36 cU) fun v37=>
 B2 (cf (.func (.func 145) [] []) [eA,v37] cU) fun lf jj=>
 B1 (bW dY lf) fun v40=>
 B1 (aW cP) fun v41=>
 B1 (fa 0 v41) fun eX=>
 B1 (st 1 eX (.int .i64 5) jj) fun zo=>
 B1 (aW cP) fun v44=>
 B1 (fa 2 v44) fun fh=>
 B1 (st 1 fh v40 zo) fun iK=>
 some (.tuple [],iK)) (
 cG cB cP cU))) (fun gO gZ oL=>
 J 1 (fun kM=>
 B1 (aW gZ) fun v51=>
 B1 (fa 0 v51) fun gi=>
 B1 (st 1 gi (.int .i64 4) oL) fun fE=>
 B1 (aW gZ) fun iA=>
 B1 (fa 2 iA) fun hU=>
 B1 (st 1 hU (.int .i64 0) fE) fun ou=>
 kM gO ou) (fun dD lT=>
 B1 (aW dD) fun v59=>
 B1 (fa 1 v59) fun gL=>
 B1 (st 1 gL (.int .i64 2) lT) fun iL=>
 some (.tuple [],iL))))
theorem ahl (J:JT) (G:GT) (cf:CF) (a0 a1 a2:AV) (H:Hp):fG P J G aU an cf 107 [a0,a1,a2] H=Ic J G cf a0 a1 a2 H:=by kernel_rfl
theorem Xt {a0 a1 a2:AV} {H:Hp} {r:AV × Hp} (h:Ic JN GO cK a0 a1 a2 H=some r):cK (.func (.func 107) [] []) [a0,a1,a2] H=some r:=aT (first:=[]) (cap:=[]) ((ahl JN GO _ a0 a1 a2 H).trans h)
noncomputable def O3 (J:JT) (G:GT) (cf:CF) (a0 a1 a2 a3:AV) (H:Hp):R:=
 BN (bx 75 a0 H) fun i0 h1=>
 BN (aL h1 [.ah,(.int .i64 0),.ah,.ah] 75 0) fun i2 h3=>
 J 4 (fun j4=>
 J 5 (fun j5=>
 B1 (aC 4 (.ptr i0 0) h3) fun v6=>
 B2 (cf (.func (.func 109) [] []) [v6,a1,a2] h3) fun v7 h8=>
 j5 a1 a3 (.ptr i0 0) (.ptr i2 0) v7 h8) (fun x9 cq bL bA bu jL=>
 B1 (gy bu (.int .i64 0)) fun ei=>
 CD ei (
 B1 (fl [.ah,(.int .i64 0),.ah,.ah] []) fun l16=>
 B1 (st 4 bA (.agg l16) jL) fun dQ=>
 B1 (aC 4 bA dQ) fun dA=>
 some (.tuple [dA,bu],dQ)) (
 j4 x9 cq bL bA jL))) (fun aM bB aI aE br=>
 B1 (aC 4 aI br) fun v24=>
 B2 (cf (.func (.func 97) [] []) [v24] br) fun v25 er=>
 B1 (st 4 aI v25 er) fun eP=>
 B2 (cf (.func (.func 107) [] []) [aI,aM,bB] eP) fun v28 dL=>
 B1 (aC 4 aI dL) fun v30=>
 B1 (st 4 aE v30 dL) fun gz=>
 B1 (aC 4 aE gz) fun v32=>
 some (.tuple [v32,(.int .i64 0)],gz))
theorem Te {a0 a1 a2 a3:AV} {H:Hp} {r:AV × Hp} (h:O3 JN GO cK a0 a1 a2 a3 H=some r):cK (.func (.func 80) [] []) [a0,a1,a2,a3] H=some r:=aT (first:=[]) (cap:=[]) (aa0 (by kernel_rfl) h)
noncomputable def bl__run_Run_Tick (J:JT) (G:GT) (cf:CF) (cg:K.Fn 2) (eU:K.Fn 5) (bF bw aZ bh aF:AV) (dC:Hp):R:=
 B1 (cJ aF bh) fun v20=>
 CD v20 (
 J 5 (fun fe=>
 J 5 (fun rR=>
 J 7 (fun ef=>
 B1 (fa 2 bw) fun v24=>
 B1 (ld v24 dC) fun v25=>
 B1 (ia 4 v25 aF) fun v26=>
 ef bF bw aZ aF v26 bh aF dC) (fun cB dY cP bY bO eB cH fQ=>
 J 5 (fun dI=>
 J 8 (fun vE=>
 B1 (fa 1 dY) fun v37=>
 B1 (ld v37 fQ) fun lf=>
 B1 (gy lf (.int .i64 0)) fun eQ=>
 G eQ false (fun LX=>
 LX bO fQ) (fun v41 ez=>
 G eQ false (fun A8=>
 B1 (aW v41) fun v44=>
 A8 v44 ez) (fun fh iK=>
 G eQ false (fun DO=>
 B1 (fa 2 fh) fun gk=>
 DO gk iK) (fun v49 ki=>
 G eQ false (fun k51=>
 B1 (ld v49 ki) fun gi=>
 k51 gi ki) (fun v53 xD=>
 G eQ false (fun k55=>
 k55 cB xD) (fun mb nB=>
 G eQ false (fun MJ=>
 B1 (lQ v53 mb) fun v59=>
 MJ v59 nB) (fun gL iL=>
 B1 (pk eQ (.bool true) gL) fun jd=>
 vE cB dY cP bY bO eB cH jd iL) nB) xD) ki) iK) ez) fQ) (fun gx fL fY qE jI jY lG kV mc=>
 CD kV (
 dI gx fL fY jY lG mc) (
 J 8 (fun tJ=>
 B1 (aW jI) fun jO=>
 B1 (fa 0 jO) fun jq=>
 B1 (ld jq mc) fun v75=>
 B1 (bZ v75 (.int .i64 2)) fun v76=>
 tJ gx fL fY qE jI jY lG v76 mc) (fun ft ff pn nK rf uH mT pC pK=>
 CD pC (
 B2 (cf (.func (.func 107) [] []) [ff,nK,ft] pK) fun wB wW=>
 dI ft ff pn uH mT wW) (
 J 7 (fun j88=>
 B1 (aW rf) fun xP=>
 B1 (fa 0 xP) fun sf=>
 B1 (ld sf pK) fun v91=>
 B1 (bZ v91 (.int .i64 5)) fun Bm=>
 j88 ft ff pn rf uH mT Bm pK) (fun qu oK pA qN rZ vH nP yY=>
 CD nP (
 B1 (aW qN) fun wI=>
 B1 (fa 0 wI) fun xW=>
 B1 (st 1 xW (.int .i64 1) yY) fun lh=>
 B1 (aW qN) fun xq=>
 B1 (fa 2 xq) fun v105=>
 B1 (st 1 v105 (.int .i64 0) lh) fun qP=>
 dI qu oK pA rZ vH qP) (
 dI qu oK pA rZ vH yY))))))) (fun nf mG jZ uu ue BJ=>
 rR nf mG jZ uu ue BJ))) (fun zu Bn GQ AK wY Hs=>
 fe zu Bn GQ AK wY Hs)) (fun uz su rP uN wD xf=>
 B1 (bW wD (.int .i64 1)) fun yI=>
 eU uz su rP uN yI xf)) (
 cg bw aZ dC)
noncomputable def yR (J:JT) (G:GT) (cf:CF) (cg:K.Fn 2):K.Fn 5:=dT P an J G cf 77 [1,1,0,1,0,0] [1,2,4,11,12] (fun q t H=>match Nat.beq q 0 with | true=>app 2 cg (ax [2,4] t) H | false=>(fun _ _ _=>none) q t H)
theorem aee (J:JT) (G:GT) (cf:CF) (cg:K.Fn 2) (eU:K.Fn 5) (bF bw aZ bh aF:AV) (dC:Hp):kT P an J G cf 77 [1,1,0,1,0,0] [1,2,4,11,12] (fun q t H=>match Nat.beq q 0 with | true=>app 2 cg (ax [2,4] t) H | false=>(fun _ _ _=>none) q t H) eU [bF,bw,aZ,bh,aF] dC=bl__run_Run_Tick J G cf cg eU bF bw aZ bh aF dC:=by kernel_rfl
theorem Ch (cf:CF) (cg:K.Fn 2) (bF bw aZ bh aF:AV) (dC:Hp):yR JN GO cf cg bF bw aZ bh aF dC=bl__run_Run_Tick JN GO cf cg (yR JN GO cf cg) bF bw aZ bh aF dC:=aa0 (b:=app 5 (yR JN GO cf cg) [bF,bw,aZ,bh,aF] dC) (by kernel_rfl) ((ey cf _ _ _ _ [bF,bw,aZ,bh,aF] rfl dC).trans (aee JN GO cf cg _ bF bw aZ bh aF dC))
noncomputable def P0 (J:JT) (G:GT) (cf:CF) (a0 a1:AV) (H:Hp):R:=
 BN (bx 75 a0 H) fun i0 h1=>
 BN (aL h1 [.ah,(.int .i64 0),.ah,.ah] 75 0) fun i2 h3=>
 B1 (aC 4 (.ptr i0 0) h3) fun v4=>
 B2 (cf (.func (.func 97) [] []) [v4] h3) fun v5 h6=>
 B1 (st 4 (.ptr i0 0) v5 h6) fun h7=>
 J 2 (fun j8=>
 B1 (fa 2 (.ptr i0 0)) fun v9=>
 B1 (ld v9 h7) fun v10=>
 B1 (aV v10) fun v11=>
 J 2 (fun cg=>
 yR J G cf cg a1 (.ptr i0 0) (.ptr i2 0) v11 (.int .i64 0) h7) (fun ja iT Ba=>
 j8 ja iT Ba)) (fun kI lP Cd=>
 B1 (aC 4 kI Cd) fun Rl=>
 B1 (st 4 lP Rl Cd) fun mM=>
 B1 (aC 4 lP mM) fun Ot=>
 some (Ot,mM))
theorem amC (J:JT) (G:GT) (cf:CF) (a0 a1:AV) (H:Hp):fG P J G aU an cf 77 [a0,a1] H=P0 J G cf a0 a1 H:=by kernel_rfl
theorem acd {a0 a1:AV} {H:Hp} {r:AV × Hp} (h:P0 JN GO cK a0 a1 H=some r):cK (.func (.func 77) [] []) [a0,a1] H=some r:=aT (first:=[]) (cap:=[]) ((amC JN GO _ a0 a1 H).trans h)
noncomputable def CZ (J:JT) (G:GT) (cf:CF) (a0 a1:AV) (H:Hp):R:=
 BN (bx 75 a0 H) fun i0 h1=>
 BN (bx 9 a1 h1) fun i2 h3=>
 BN (aL h3 [.ah,(.int .i64 0),.ah,.ah] 75 0) fun i4 h5=>
 J 3 (fun j6=>
 B1 (fa 1 (.ptr i0 0)) fun v7=>
 B1 (ld v7 h5) fun v8=>
 B1 (gy v8 (.int .i64 0)) fun v9=>
 CD v9 (
 B1 (fl [.ah,(.int .i64 0),.ah,.ah] []) fun l10=>
 B1 (st 4 (.ptr i4 0) (.agg l10) h5) fun fM=>
 B1 (aC 4 (.ptr i4 0) fM) fun v12=>
 some (.tuple [v12,(.int .i64 9)],fM)) (
 J 4 (fun eU=>
 B1 (fa 3 (.ptr i0 0)) fun cL=>
 B1 (ld cL h5) fun ei=>
 B1 (ld (.ptr i2 0) h5) fun dH=>
 B2 (cf (.func (.func 94) [] []) [ei,dH] h5) fun fx gW=>
 eU (.ptr i0 0) (.ptr i2 0) (.ptr i4 0) fx gW) (fun aM bB aI aE br=>
 CD aE (
 B1 (fl [.ah,(.int .i64 0),.ah,.ah] []) fun QX=>
 B1 (st 4 aI (.agg QX) br) fun dU=>
 B1 (aC 4 aI dU) fun v26=>
 some (.tuple [v26,(.int .i64 5)],dU)) (
 J 4 (fun gH=>
 B1 (fa 0 aM) fun v28=>
 B1 (fa 0 v28) fun v29=>
 B1 (ld v29 br) fun v30=>
 B2 (cf (.func (.func 95) [] []) [v30,(.func (.func 110) [] [bB])] br) fun v31 cU=>
 B1 (fW .not v31) fun eO=>
 gH aM bB aI eO cU) (fun dc dh bQ bT eT=>
 CD bT (
 B1 (fl [.ah,(.int .i64 0),.ah,.ah] []) fun l39=>
 B1 (st 4 bQ (.agg l39) eT) fun nO=>
 B1 (aC 4 bQ nO) fun v41=>
 some (.tuple [v41,(.int .i64 1)],nO)) (
 j6 dc dh bQ eT)))))) (fun eK dX gD jX=>
 B1 (aC 4 eK jX) fun v46=>
 B2 (cf (.func (.func 97) [] []) [v46] jX) fun ma rU=>
 B1 (st 4 eK ma rU) fun oL=>
 J 2 (fun kM=>
 B1 (fa 3 eK) fun v51=>
 B1 (ld v51 oL) fun gi=>
 B1 (ld dX oL) fun v53=>
 B1 (fl [(.str [])] [(0,1,v53)]) fun l54=>
 BN (aL oL l54 9 0) fun i55 ou=>
 B2 (gC 9 1 [(.str [])] false gi (.slice i55 0 1 1 true 1) ou) fun v57 lT=>
 B1 (fa 3 eK) fun v59=>
 B1 (st 1 v59 v57 lT) fun mA=>
 kM eK gD mA) (fun dV iX xG=>
 B2 (cf (.func (.func 106) [] []) [dV] xG) fun v64 lM=>
 B1 (aC 4 dV lM) fun jG=>
 B1 (st 4 iX jG lM) fun nh=>
 B1 (aC 4 iX nh) fun mZ=>
 some (.tuple [mZ,(.int .i64 0)],nh)))
theorem acp (J:JT) (G:GT) (cf:CF) (a0 a1:AV) (H:Hp):fG P J G aU an cf 81 [a0,a1] H=CZ J G cf a0 a1 H:=by kernel_rfl
theorem IZ {a0 a1:AV} {H:Hp} {r:AV × Hp} (h:CZ JN GO cK a0 a1 H=some r):cK (.func (.func 81) [] []) [a0,a1] H=some r:=aT (first:=[]) (cap:=[]) ((acp JN GO _ a0 a1 H).trans h)
noncomputable def aaz (J:JT) (G:GT) (cf:CF) (a0 a1:AV) (H:Hp):R:=
 BN (bx 99 a0 H) fun i0 h1=>
 B1 (fa 5 (.ptr i0 0)) fun v2=>
 B1 (ld v2 h1) fun v3=>
 B1 (ld a1 h1) fun v4=>
 B1 (seq v3 v4) fun v5=>
 G v5 true (fun k6=>
 B1 (ld a1 h1) fun v7=>
 k6 v7 h1) (fun v8 h9=>
 G v5 true (fun uw=>
 B1 (rK v8 (.str [])) fun v11=>
 uw v11 h9) (fun v12 eZ=>
 B1 (pk v5 v12 (.bool false)) fun cL=>
 some (cL,eZ)) h9) h1
theorem alV {a0 a1:AV} {H:Hp} {r:AV × Hp} (h:aaz JN GO cK a0 a1 H=some r):cK (.func (.func 110) [] [a1]) [a0] H=some r:=aT (first:=[]) (cap:=[a1]) (aa0 (by kernel_rfl) h)
noncomputable def C9 (J:JT) (G:GT) (cf:CF) (a0 a1:AV) (H:Hp):R:=
 BN (bx 75 a0 H) fun i0 h1=>
 BN (bx 75 a1 h1) fun i2 h3=>
 B1 (fa 1 (.ptr i0 0)) fun v4=>
 B1 (ld v4 h3) fun v5=>
 B1 (fa 1 (.ptr i2 0)) fun v6=>
 B1 (ld v6 h3) fun v7=>
 B1 (bZ v5 v7) fun v8=>
 G v8 true (fun k9=>
 B1 (fa 2 (.ptr i0 0)) fun v10=>
 k9 v10 h3) (fun v11 dP=>
 G v8 true (fun ED=>
 B1 (ld v11 dP) fun cL=>
 ED cL dP) (fun ei bM=>
 G v8 true (fun QW=>
 B1 (fa 2 (.ptr i2 0)) fun dA=>
 QW dA bM) (fun eN cx=>
 G v8 true (fun Hc=>
 B1 (ld eN cx) fun v22=>
 Hc v22 cx) (fun v23 iZ=>
 G v8 true (fun Hw=>
 B2 (cf (.func (.func 73) [] []) [ei,v23] iZ) fun v26 eP=>
 Hw v26 eP) (fun v28 dL=>
 B1 (pk v8 v28 (.bool false)) fun v30=>
 G v30 true (fun uR=>
 B1 (fa 3 (.ptr i0 0)) fun v32=>
 uR v32 dL) (fun eO fQ=>
 G v30 true (fun rT=>
 B1 (ld eO fQ) fun v36=>
 rT v36 fQ) (fun v37 eT=>
 G v30 true (fun Az=>
 B1 (fa 3 (.ptr i2 0)) fun v40=>
 Az v40 eT) (fun v41 ez=>
 G v30 true (fun A8=>
 B1 (ld v41 ez) fun v44=>
 A8 v44 ez) (fun fh iK=>
 G v30 true (fun DO=>
 B2 (cf (.func (.func 74) [] []) [v37,fh] iK) fun gk oL=>
 DO gk oL) (fun jw mV=>
 B1 (pk v30 jw (.bool false)) fun gi=>
 G gi true (fun Mc=>
 B1 (fa 0 (.ptr i0 0)) fun iA=>
 Mc iA mV) (fun hU ou=>
 G gi true (fun k57=>
 B1 (fa 0 hU) fun kL=>
 k57 kL ou) (fun v59 mA=>
 G gi true (fun k61=>
 B1 (ld v59 mA) fun jd=>
 k61 jd mA) (fun v63 oD=>
 G gi true (fun k65=>
 B1 (fa 0 (.ptr i2 0)) fun jG=>
 k65 jG oD) (fun mH vN=>
 G gi true (fun k69=>
 B1 (fa 0 mH) fun v70=>
 k69 v70 vN) (fun ng mn=>
 G gi true (fun OO=>
 B1 (ld ng mn) fun jq=>
 OO jq mn) (fun v75 mw=>
 G gi true (fun Eh=>
 Eh (.func (.func 71) [] []) mw) (fun tw hZ=>
 G gi true (fun P4=>
 B2 (cf (.func (.func 75) [] []) [v63,v75,tw] hZ) fun rW sM=>
 P4 rW sM) (fun oC rp=>
 B1 (pk gi oC (.bool false)) fun v85=>
 some (v85,rp)) hZ) mw) mn) vN) oD) mA) ou) mV) iK) ez) eT) fQ) dL) iZ) cx) bM) dP) h3
theorem adU (J:JT) (G:GT) (cf:CF) (a0 a1:AV) (H:Hp):fG P J G aU an cf 36 [a0,a1] H=C9 J G cf a0 a1 H:=by kernel_rfl
theorem Ik {a0 a1:AV} {H:Hp} {r:AV × Hp} (h:C9 JN GO cK a0 a1 H=some r):cK (.func (.func 36) [] []) [a0,a1] H=some r:=aT (first:=[]) (cap:=[]) ((adU JN GO _ a0 a1 H).trans h)
noncomputable def O9 (J:JT) (G:GT) (cf:CF) (a0 a1:AV) (H:Hp):R:=
 BN (bx 99 a0 H) fun i0 h1=>
 BN (bx 99 a1 h1) fun i2 h3=>
 B1 (fa 1 (.ptr i0 0)) fun v4=>
 B1 (ld v4 h3) fun v5=>
 B1 (fa 1 (.ptr i2 0)) fun v6=>
 B1 (ld v6 h3) fun v7=>
 B2 (cf (.func (.func 72) [] []) [v5,v7] h3) fun v8 h9=>
 G v8 true (fun uw=>
 B1 (fa 0 (.ptr i0 0)) fun v11=>
 uw v11 h9) (fun v12 eZ=>
 G v8 true (fun Aq=>
 B1 (ld v12 eZ) fun ei=>
 Aq ei eZ) (fun dH dQ=>
 G v8 true (fun Hu=>
 B1 (fa 0 (.ptr i2 0)) fun eN=>
 Hu eN dQ) (fun v20 kc=>
 G v8 true (fun Pw=>
 B1 (ld v20 kc) fun v23=>
 Pw v23 kc) (fun v24 dU=>
 G v8 true (fun F0=>
 B1 (seq dH v24) fun v27=>
 F0 v27 dU) (fun v28 dL=>
 B1 (pk v8 v28 (.bool false)) fun v30=>
 G v30 true (fun uR=>
 B1 (fa 2 (.ptr i0 0)) fun v32=>
 uR v32 dL) (fun eO fQ=>
 G v30 true (fun rT=>
 B1 (ld eO fQ) fun v36=>
 rT v36 fQ) (fun v37 eT=>
 G v30 true (fun Az=>
 B1 (fa 2 (.ptr i2 0)) fun v40=>
 Az v40 eT) (fun v41 ez=>
 G v30 true (fun A8=>
 B1 (ld v41 ez) fun v44=>
 A8 v44 ez) (fun fh iK=>
 G v30 true (fun DO=>
 B1 (bZ v37 fh) fun gk=>
 DO gk iK) (fun v49 ki=>
 B1 (pk v30 v49 (.bool false)) fun v51=>
 G v51 true (fun GY=>
 B1 (fa 3 (.ptr i0 0)) fun v53=>
 GY v53 ki) (fun iA uL=>
 G v51 true (fun Ar=>
 B1 (ld iA uL) fun v57=>
 Ar v57 uL) (fun kL wo=>
 G v51 true (fun k60=>
 B1 (fa 3 (.ptr i2 0)) fun nX=>
 k60 nX wo) (fun jd xG=>
 G v51 true (fun k64=>
 B1 (ld jd xG) fun nz=>
 k64 nz xG) (fun jG nh=>
 G v51 true (fun k68=>
 B1 (bZ kL jG) fun lO=>
 k68 lO nh) (fun v70 mc=>
 B1 (pk v51 v70 (.bool false)) fun v72=>
 G v72 true (fun OO=>
 B1 (fa 4 (.ptr i0 0)) fun jq=>
 OO jq mc) (fun v75 mw=>
 G v72 true (fun Eh=>
 B1 (ld v75 mw) fun tw=>
 Eh tw mw) (fun uB xe=>
 G v72 true (fun MM=>
 B1 (fa 4 (.ptr i2 0)) fun oq=>
 MM oq xe) (fun oC rp=>
 G v72 true (fun k85=>
 B1 (ld oC rp) fun wB=>
 k85 wB rp) (fun v87 yX=>
 G v72 true (fun LZ=>
 B1 (bZ uB v87) fun sf=>
 LZ sf yX) (fun v91 tG=>
 B1 (pk v72 v91 (.bool false)) fun v93=>
 G v93 true (fun k94=>
 B1 (fa 5 (.ptr i0 0)) fun Qa=>
 k94 Qa tG) (fun py th=>
 G v93 true (fun NG=>
 B1 (ld py th) fun FN=>
 NG FN th) (fun GC yP=>
 G v93 true (fun MV=>
 B1 (fa 5 (.ptr i2 0)) fun vR=>
 MV vR yP) (fun xq xR=>
 G v93 true (fun Ma=>
 B1 (ld xq xR) fun v107=>
 Ma v107 xR) (fun xy DF=>
 G v93 true (fun Ph=>
 B1 (seq GC xy) fun Bo=>
 Ph Bo DF) (fun xM zd=>
 B1 (pk v93 xM (.bool false)) fun rN=>
 some (rN,zd)) DF) xR) yP) th) tG) yX) rp) xe) mw) mc) nh) xG) wo) uL) ki) iK) ez) eT) fQ) dL) dU) kc) dQ) eZ) h9
theorem anc (J:JT) (G:GT) (cf:CF) (a0 a1:AV) (H:Hp):fG P J G aU an cf 71 [a0,a1] H=O9 J G cf a0 a1 H:=by kernel_rfl
theorem afy {a0 a1:AV} {H:Hp} {r:AV × Hp} (h:O9 JN GO cK a0 a1 H=some r):cK (.func (.func 71) [] []) [a0,a1] H=some r:=aT (first:=[]) (cap:=[]) ((anc JN GO _ a0 a1 H).trans h)
noncomputable def IN (J:JT) (G:GT) (cf:CF) (fe:K.Fn 1) (rR:K.Fn 3) (bp bI bP:AV) (er:Hp):R:=
 J 3 (fun gH=>
 J 4 (fun iC=>
 B1 (cJ bP bp) fun v29=>
 G v29 true (fun Qf=>
 Qf bI er) (fun v31 cU=>
 G v29 true (fun EW=>
 B1 (cJ v31 (.int .i64 64000)) fun eA=>
 EW eA cU) (fun v35 mI=>
 B1 (pk v29 v35 (.bool false)) fun v37=>
 iC bp bI bP v37 mI) cU) er) (fun bV dm dd dS ez=>
 CD dS (
 gH bV dm dd ez) (
 fe dm ez))) (fun dX gD fq iK=>
 B1 (A7 gD (.int .u64 1)) fun ma=>
 B2 (gI P .min #[2,2] [ma,(.int .i64 64000)] iK) fun gk oL=>
 B1 (bW fq (.int .i64 1)) fun jw=>
 rR dX gk jw oL)
noncomputable def EG (J:JT) (G:GT) (cf:CF) (fe:K.Fn 1):K.Fn 3:=dT P an J G cf 145 [1,1,1,0,1,0,0] [1,5,6] (fun q t H=>match Nat.beq q 0 with | true=>app 1 fe (ax [5] t) H | false=>(fun _ _ _=>none) q t H)
theorem WU (cf:CF) (fe:K.Fn 1) (bp bI bP:AV) (er:Hp):EG JN GO cf fe bp bI bP er=IN JN GO cf fe (EG JN GO cf fe) bp bI bP er:=aa0 (b:=app 3 (EG JN GO cf fe) [bp,bI,bP] er) (by kernel_rfl) ((ey cf 145 [1,1,1,0,1,0,0] [1,5,6] _ [bp,bI,bP] rfl er).trans (by kernel_rfl))
noncomputable def aba (J:JT) (G:GT) (cf:CF) (a0 a1:AV) (H:Hp):R:=
 J 2 (fun j0=>
 J 3 (fun j1=>
 B1 (cJ a0 (.int .i64 1)) fun v2=>
 G v2 false (fun k3=>
 k3 a1 H) (fun v4 h5=>
 G v2 false (fun k6=>
 B1 (cJ v4 (.int .i64 1)) fun v7=>
 k6 v7 h5) (fun v8 h9=>
 B1 (pk v2 (.bool true) v8) fun v10=>
 j1 a0 a1 v10 h9) h5) H) (fun bL bA bu jL=>
 CD bu (
 some ((.int .i64 0),jL)) (
 j0 bL bA jL))) (fun bw aZ dQ=>
 B2 (gI P .min #[2,2] [bw,(.int .i64 64000)] dQ) fun dA dC=>
 J 1 (fun aG=>
 J 1 (fun fe=>
 EG J G cf fe aZ dA (.int .i64 1) dC) (fun jM sC=>
 aG jM sC)) (fun ji xD=>
 some (ji,xD)))
theorem ae7 {a0 a1:AV} {H:Hp} {r:AV × Hp} (h:aba JN GO cK a0 a1 H=some r):cK (.func (.func 145) [] []) [a0,a1] H=some r:=aT (first:=[]) (cap:=[]) (aa0 (by kernel_rfl) h)
noncomputable def ZW (J:JT) (G:GT) (cf:CF) (a0 a1:AV) (H:Hp):R:=
 B2 (cf (.func (.func 86) [] []) [a0,a1] H) fun v0 h1=>
 B1 (lY v0 (.int .i64 0)) fun v2=>
 some (v2,h1)
theorem amJ {a0 a1:AV} {H:Hp} {r:AV × Hp} (h:ZW JN GO cK a0 a1 H=some r):cK (.func (.func 50) [] []) [a0,a1] H=some r:=aT (first:=[]) (cap:=[]) (aa0 (by kernel_rfl) h)
noncomputable def XF (J:JT) (G:GT) (cf:CF) (a0 a1:AV) (H:Hp):R:=
 B2 (cf (.func (.func 115) [] []) [a0,a1,(.bool true)] H) fun v0 h1=>
 some (v0,h1)
theorem abZ {a0 a1:AV} {H:Hp} {r:AV × Hp} (h:XF JN GO cK a0 a1 H=some r):cK (.func (.func 86) [] []) [a0,a1] H=some r:=aT (first:=[]) (cap:=[]) (aa0 (by kernel_rfl) h)
noncomputable def Kt (J:JT) (G:GT) (cf:CF) (j3:K.Fn 0) (j4:K.Fn 3) (x5 x6 x7:AV) (h8:Hp):R:=
 B2 (vD x7 true h8) fun v9 cN=>
 B1 (ex 0 v9) fun v11=>
 CD v11 (
 B1 (ex 1 v9) fun v12=>
 B1 (ex 2 v9) fun dN=>
 J 5 (fun bR=>
 B2 (cf x5 [dN] cN) fun ei bM=>
 B1 (bb .eql ei x6) fun fx=>
 bR x5 x6 v12 x7 fx bM) (fun aF aM bB aI aE br=>
 CD aE (
 some (bB,br)) (
 j4 aF aM aI br))) (
 j3  cN)
noncomputable def Gu (J:JT) (G:GT) (cf:CF) (j3:K.Fn 0):K.Fn 3:=dT P an J G cf 115 [1,0,1,0,0] [1,2,10] (fun q t H=>match Nat.beq q 0 with | true=>app 0 j3 (ax [] t) H | false=>(fun _ _ _=>none) q t H)
theorem N3 (cf:CF) (j3:K.Fn 0) (x5 x6 x7:AV) (h8:Hp):Gu JN GO cf j3 x5 x6 x7 h8=Kt JN GO cf j3 (Gu JN GO cf j3) x5 x6 x7 h8:=aa0 (b:=app 3 (Gu JN GO cf j3) [x5,x6,x7] h8) (by kernel_rfl) ((ey cf 115 [1,0,1,0,0] [1,2,10] _ [x5,x6,x7] rfl h8).trans (by kernel_rfl))
noncomputable def XE (J:JT) (G:GT) (cf:CF) (a0 a1 a2:AV) (H:Hp):R:=
 J 0 (fun j0=>
 B2 (xC P 9 a0 H) fun v1 h2=>
 J 0 (fun j3=>
 Gu J G cf j3 a1 a2 v1 h2) (fun  iZ=>
 j0  iZ)) (fun  dU=>
 some ((.int .i64 (-1)),dU))
theorem agb {a0 a1 a2:AV} {H:Hp} {r:AV × Hp} (h:XE JN GO cK a0 a1 a2 H=some r):cK (.func (.func 115) [] []) [a0,a1,a2] H=some r:=aT (first:=[]) (cap:=[]) (aa0 (by kernel_rfl) h)
end
end Go.Proofs.YtodfajmihkagnaaGreatDoor.DfK
