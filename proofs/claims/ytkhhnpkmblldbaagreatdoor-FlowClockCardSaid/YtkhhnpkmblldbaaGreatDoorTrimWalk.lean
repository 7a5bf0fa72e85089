/- strings.Trim at a cutset of ASCII bytes, as a contract of the evaluator (out of the library's own contract). No conditions. -/
import Derived.Test.YtkhhnpkmblldbaaGreatDoorAm9
import Derived.Test.YtkhhnpkmblldbaaGreatDoorShelf
import Derived.ProofKit
import Derived.Shelf.SortM.Plain
import Derived.Shelf.SortM.SortNone
import Derived.Shelf.Strconv.Itoa0
import Derived.Shelf.Strconv.Itoa2
import Derived.Shelf.Strconv.AtoiAll
import Derived.Test.YtkhhnpkmblldbaaGreatDoorAm14
import Derived.Test.YtkhhnpkmblldbaaGreatDoorProg
import Derived.Test.YtkhhnpkmblldbaaGreatDoorRows
import Derived.KernelRfl
namespace Go.Proofs.YtkhhnpkmblldbaaGreatDoor.TrimWalk
open Go Go.Proofs Go.RowKit Go.Shelf
set_option maxRecDepth 100000
theorem trimOne : Am.PrimOne Tryz.prog 96 Am.trimP := by
  refine Am.trim_ok (fun as' w => Am.run_enter (by unfold Am.NamesOK; kernel_rfl) Tryz.func96 rfl as' w) ?_
  intro s c w hs hc ha
  exact Any.strings_Trim_laid Tryz.lays160 (by kernel_rfl) s c w hs hc ha
end Go.Proofs.YtkhhnpkmblldbaaGreatDoor.TrimWalk
set_option linter.unusedVariables false
set_option linter.unusedSimpArgs false
namespace Go.Proofs.YtkhhnpkmblldbaaGreatDoor.LibS
open Go Am Go.Sort Go.RowKit Go.Proofs
def zOf : AV → Option Int
  | .int .i64 z => some z
  | _ => none
def zsOf : List AV → Option (List Int)
  | [] => some []
  | v :: r => match zOf v, zsOf r with
    | some z, some l => some (z :: l)
    | _, _ => none
def nums (l : List Int) : List AV := l.map (AV.int .i64)
def sortZ (l : List Int) : List Int := l.mergeSort fun x y => decide (x ≤ y)
theorem zOf_some {v : AV} {z : Int} (h : zOf v = some z) : v = .int .i64 z := by
  unfold zOf at h
  split at h
  · cases h; rfl
  · cases h
theorem zsOf_some : ∀ {l : List AV} {zs : List Int}, zsOf l = some zs → l = nums zs
  | [], zs, h => by cases h; rfl
  | v :: r, zs, h => by
    unfold zsOf at h
    split at h
    · rename_i z l h1 h2
      cases h
      rw [zOf_some h1, zsOf_some h2]
      rfl
    · cases h
theorem sortZ_len (l : List Int) : (sortZ l).length = l.length := (List.mergeSort_perm l _).length_eq
noncomputable section
def sort3 (H : Hp) (i off : Nat) (c : Tr AV) (lo hi el fl : Nat) (r : Option (List Int)) : Option (AV × Hp) := match r with
  | some zs => some (.tuple [], { H with h := H.h.upd i (.cells (c.puts off (nums (sortZ zs))) lo hi el fl) })
  | none => none
open Classical in
def sort2 (H : Hp) (i off n : Nat) (o : AO) : Option (AV × Hp) := match o with
  | .cells c lo hi el fl => if lo ≤ off ∧ off + n ≤ hi ∧ fl ≤ 1 then sort3 H i off c lo hi el fl ((cellsAt H i off n).bind zsOf) else none
  | _ => none
open Classical in
def sortP : Prim := fun args H => match args with
  | [.slice0] => some (.tuple [], H)
  | [.slice i off n cap ex es] => if n = 0 then some (.tuple [], H) else if es = 1 ∧ n < 4611686018427387904 then (H.h.get i).bind (sort2 H i off n) else none
  | _ => none
end
theorem tup0 (e : Em) : VR e (.tuple []) (.tuple #[]) := .tuple [] #[] rfl (fun i v v' h => by simp at h)
theorem sort_ok {f : Nat} (hen : ∀ as' w, (callFunc f as').run Tryz.prog w = .ok (.enter f as') w)
    (h0 : ∀ (p : Option Addr) (cap : Nat) (w : World), Calls Tryz.prog f #[.slice p 0 cap] w fun e w' => e = .returned (.tuple #[]) ∧ w' = w)
    (h1 : ∀ (blk off cap : Nat) (zs : List Int) (w : World), Holds (Value.int .i64) w blk off zs.toArray → blk < w.heap.size → zs.length < 4611686018427387904 →
      Calls Tryz.prog f #[.slice (some ⟨blk, off, none⟩) zs.length cap] w fun e w' => e = .returned (.tuple #[]) ∧ ∃ n os, w' = grow (putRow (Value.int .i64) (Sort.ahead w n) blk off (zs.mergeSort fun x y => decide (x ≤ y)).toArray) os) : PrimOne Tryz.prog f sortP := by
  intro args H v H' hp Fr W e w as' hR ha
  unfold sortP at hp
  split at hp
  · obtain ⟨a', r1, e1, hv1, hr1⟩ := ha.cons_inv
    have e3 := hr1.nil_inv
    subst e3
    cases hp
    cases hv1
    obtain rfl : as' = #[.slice none 0 0] := Array.toList_inj.1 e1
    refine ⟨hen _ _, (h0 none 0 w).mono ?_⟩
    rintro en w' ⟨rfl, rfl⟩
    exact ⟨e, _, rfl, e.le_refl, hR, tup0 e⟩
  · rename_i i off n cap ex es
    obtain ⟨a', r1, e1, hv1, hr1⟩ := ha.cons_inv
    have e3 := hr1.nil_inv
    subst e3
    split at hp
    · rename_i hn0
      subst hn0
      cases hp
      rcases hv1.slice_inv with ⟨o, c, k1, k2, k3, k4, k5, k6, rfl⟩ | ⟨_, _, a, rfl⟩
      · obtain rfl : as' = #[.slice (some ⟨e.b i, o, none⟩) 0 c] := Array.toList_inj.1 e1
        refine ⟨hen _ _, (h0 _ c w).mono ?_⟩
        rintro en w' ⟨rfl, rfl⟩
        exact ⟨e, _, rfl, e.le_refl, hR, tup0 e⟩
      · obtain rfl : as' = #[.slice (some a) 0 0] := Array.toList_inj.1 e1
        refine ⟨hen _ _, (h0 _ 0 w).mono ?_⟩
        rintro en w' ⟨rfl, rfl⟩
        exact ⟨e, _, rfl, e.le_refl, hR, tup0 e⟩
    · rename_i hn0
      split at hp
      · rename_i hes
        obtain ⟨rfl, hbig⟩ := hes
        rcases hv1.slice_inv with ⟨o, cc, k1, k2, k3, k4, k5, k6, rfl⟩ | ⟨q, _, a, rfl⟩
        · obtain ⟨ob0, hg, hp⟩ := Option.bind_eq_some_iff.1 hp
          unfold sort2 at hp
          split at hp
          · rename_i c lo hi el fl
            split at hp
            · rename_i hcond
              obtain ⟨g1, g2, g3⟩ := hcond
              cases hr : (cellsAt H i off n).bind zsOf with
              | none => rw [hr] at hp; cases hp
              | some zs =>
                rw [hr] at hp
                cases hp
                obtain ⟨l, hl, hz⟩ := Option.bind_eq_some_iff.1 hr
                have hlz := zsOf_some hz
                obtain ⟨cs, c1, c2, c3⟩ := hR.loads hl k2
                have hzn : zs.length = n := by rw [← c2, c1.1, hlz]; simp [nums]
                have hcs : ∀ j z, zs[j]? = some z → w.cell? ⟨e.b i, o + j, none⟩ = some (.int .i64 z) := by
                  intro j z hj
                  obtain ⟨v', hv', hr'⟩ := c1.get (i := j) (v := .int .i64 z) (by rw [hlz]; simp [nums, hj])
                  have := hr'.int_inv
                  subst this
                  exact c3 j _ hv'
                obtain ⟨hN, ob, hob, hor, hF⟩ := hR.obj i _ hg
                cases hor with
                | cells _ _ _ _ _ C fz hn hcc hf0 hf1 hd =>
                  have hsz : o + n ≤ C.size := by rw [hn]; omega
                  have hH : Holds (Value.int .i64) w (e.b i) o zs.toArray := by
                    intro j hj
                    have hj' : j < zs.length := by simpa using hj
                    refine ⟨?_, ?_⟩
                    · rw [hcs j zs[j] (List.getElem?_eq_getElem hj')]
                      simp [hj']
                    · have := hf1 g3 (o + j) (by omega)
                      simp only [World.frozen?, hob]
                      exact this
                  obtain rfl : as' = #[.slice (some ⟨e.b i, o, none⟩) n cc] := Array.toList_inj.1 e1
                  have hcall := h1 (e.b i) o cc zs w hH (Array.getElem?_eq_some_iff.1 hob).1 (by omega)
                  rw [hzn] at hcall
                  refine ⟨hen _ _, hcall.mono ?_⟩
                  rintro en w' ⟨rfl, m, os, rfl⟩
                  refine ⟨e, _, rfl, e.le_refl, ?_, tup0 e⟩
                  have hR1 := hR.drawn (w.drawn + m)
                  have hst : (zs.mergeSort fun x y => decide (x ≤ y)) = sortZ zs := rfl
                  have hsl := sortZ_len zs
                  rw [hst]
                  generalize sortZ zs = ss at *
                  have hR2 : RH Tryz.prog.globals.size Fr W e { H with h := H.h.upd i (.cells (c.puts off (nums ss)) lo hi el fl) } (putRow (Value.int .i64) (Sort.ahead w m) (e.b i) o ss.toArray) := by
                    refine hR1.put hg (by simp [wr, g3]) (ob' := .cells (putCells (Value.int .i64) o ss.toArray C) el fz) ?_ ?_ ?_ ?_ rfl rfl rfl
                    · simp [putRow, mapBlock, Sort.ahead]
                    · simp only [putRow, mapBlock, Sort.ahead]
                      rw [get_modify_same _ _ _ hob]
                      rfl
                    · intro k hk
                      simp only [putRow, mapBlock, Sort.ahead]
                      rw [get_modify_ne _ _ _ _ (fun q => hk q.symm)]
                    · have hps : (putCells (Value.int .i64) o ss.toArray C).size = C.size := by simp [putCells]
                      refine .cells _ lo hi el fl _ fz (by rw [hps]; exact hn) ?_ hf0 (by rw [hps]; exact hf1) hd
                      intro k u a b hk
                      rw [Tr.get_putsA] at hk
                      have hnl : (nums ss).length = n := by simp [nums]; omega
                      rw [hnl] at hk
                      by_cases hin : off ≤ k ∧ k < off + n
                      · rw [if_pos hin] at hk
                        have hjl : k - off < ss.length := by omega
                        have hu : u = .int .i64 ss[k - off] := by
                          have : (nums ss)[k - off]? = some (.int .i64 ss[k - off]) := by simp [nums, hjl]
                          rw [this] at hk
                          exact (Option.some.inj hk).symm
                        subst hu
                        refine ⟨o + (k - off), by omega, .int .i64 ss[k - off], ?_, .int _ _⟩
                        have hC : o + (k - off) < C.size := by omega
                        simp only [putCells]
                        rw [Array.getElem?_mapIdx, Array.getElem?_eq_getElem hC]
                        simp only [Option.map_some, List.size_toArray]
                        rw [if_pos (by omega), Nat.add_sub_cancel_left]
                        simp [hjl]
                      · rw [if_neg hin] at hk
                        obtain ⟨k2', hk2', u', hu', hr'⟩ := hcc k u a b hk
                        refine ⟨k2', hk2', u', ?_, hr'⟩
                        simp only [putCells]
                        rw [Array.getElem?_mapIdx, hu']
                        simp only [Option.map_some, List.size_toArray]
                        rw [if_neg (by omega)]
                  exact hR2.below ⟨rfl, rfl, rfl, by simp [grow], fun k hk => by
                    simp only [grow]
                    rw [Array.getElem?_append_left hk]⟩
            · cases hp
          · cases hp
        · omega
      · cases hp
  · cases hp
theorem sortOne : PrimOne Tryz.prog 197 sortP :=
  sort_ok (fun as' w => run_enter (by unfold NamesOK; kernel_rfl) Tryz.func197 rfl as' w)
    (fun p cap w => AnyM.slices_Sort_int_none Tryz.sortN p cap w) (fun blk off cap zs w hH hb hl => AnyM.slices_Sort_int Tryz.sortN blk off cap zs w hH hb hl)
end Go.Proofs.YtkhhnpkmblldbaaGreatDoor.LibS
set_option linter.unusedVariables false
set_option linter.unusedSimpArgs false
namespace Go.Proofs.YtkhhnpkmblldbaaGreatDoor.LibP
open Go Am Go.Sort Go.RowKit Go.Proofs LibS
theorem names0 : NamesOK Tryz.prog := by unfold NamesOK; kernel_rfl
/-! math/bits.Len64 -/
noncomputable section
open Classical in
def len64P : Prim := fun args H => match args with
  | [.int .u64 x] => if 0 ≤ x ∧ x ≤ 18446744073709551615 then some (.int .i64 (Lib.bitLen x.toNat), H) else none
  | _ => none
/-- the digits of u, so many -/
def digs (u n : Nat) : List AV := (List.range n).map fun t => AV.int .u8 ((Lib.dg u (n - 1 - t)).toNat)
open Classical in
def fb2 (H : Hp) (i off n u : Nat) (o : AO) : Option (AV × Hp) := match o with
  | .cells c lo hi el fl => if lo ≤ off ∧ off + n ≤ hi ∧ fl ≤ 1 ∧ (∃ l, cellsAt H i off n = some l ∧ ∀ v ∈ l, ∃ b : Nat, b < 256 ∧ v = .int .u8 b) then some (.tuple [], { H with h := H.h.upd i (.cells (c.puts off (digs u n)) lo hi el fl) }) else none
  | _ => none
open Classical in
def fb10P : Prim := fun args H => match args with
  | [.slice i off n cap ex es, .int .u64 u] => if es = 1 ∧ 0 < n ∧ n < 4611686018427387904 ∧ 0 ≤ u ∧ u < 18446744073709551616 ∧ u.toNat < 10 ^ n then (H.h.get i).bind (fb2 H i off n u.toNat) else none
  | _ => none
/-- what is read of the two errors -/
structure ErrA (H : Hp) : Prop where
  syn : ∃ t p, cellAt H 6 0 = some (.iface t p)
  rng : ∃ t p, cellAt H 7 0 = some (.iface t p)
def u8of (s : List Nat) : List UInt8 := s.map UInt8.ofNat
def atoiR (s : List Nat) : AV := match Lib.atoiAll (u8of s) with
  | .ok v => .tuple [.int .i64 v, .nilIface]
  | .range => .tuple [.int .i64 (Lib.atoiSat (u8of s)), .iface 274 .junk]
  | _ => .tuple [.int .i64 0, .iface 274 .junk]
open Classical in
def atoiP : Prim := fun args H => match args with
  | [.str s] => if ErrA H ∧ s.length ≤ 281474976710656 then some (atoiR s, H) else none
  | _ => none
end
theorem len64One : PrimOne Tryz.prog 187 len64P := by
  intro args H v H' hp F W e w as' hR ha
  unfold len64P at hp
  split at hp
  · rename_i x
    split at hp
    · rename_i hx
      cases hp
      obtain ⟨a', r1, e1, hv1, hr1⟩ := ha.cons_inv
      have e3 := hr1.nil_inv
      subst e3
      have := hv1.int_inv
      subst this
      obtain rfl : as' = #[.int .u64 x] := Array.toList_inj.1 e1
      refine ⟨run_enter names0 Tryz.func187 rfl _ w, (Any.bits_Len64 Tryz.lays129 x w hx.1 hx.2).mono ?_⟩
      rintro en w' ⟨rfl, rfl⟩
      exact ⟨e, _, rfl, e.le_refl, hR, .int _ _⟩
    · cases hp
  · cases hp
theorem VR.two {e : Em} {a b : AV} {a' b' : Value} (h : VR e a a') (k : VR e b b') : VR e (.tuple [a, b]) (.tuple #[a', b']) := by
  refine .tuple _ _ rfl ?_
  intro i v v' h1 h2
  match i, h1, h2 with
  | 0, h1, h2 => cases h1; cases h2; exact h
  | 1, h1, h2 => cases h1; cases h2; exact k
/-! internal/strconv.formatBase10 -/
theorem fb10One : PrimOne Tryz.prog 171 fb10P := by
  intro args H v H' hp Fr W e w as' hR ha
  unfold fb10P at hp
  split at hp
  · rename_i i off n cap ex es u
    obtain ⟨a', r1, e1, hv1, hr1⟩ := ha.cons_inv
    obtain ⟨b', r2, e2, hv2, hr2⟩ := hr1.cons_inv
    have e3 := hr2.nil_inv
    subst e3
    have hu' := hv2.int_inv
    subst hu'
    split at hp
    · rename_i hc
      obtain ⟨rfl, hn0, hbig, hu0, hu64, hupow⟩ := hc
      obtain ⟨un, rfl⟩ : ∃ un : Nat, u = un := ⟨u.toNat, by omega⟩
      rw [Int.toNat_natCast] at hp hupow
      rcases hv1.slice_inv with ⟨o, cc, k1, k2, k3, k4, k5, k6, rfl⟩ | ⟨q, _, a, rfl⟩
      · obtain ⟨ob0, hg, hp⟩ := Option.bind_eq_some_iff.1 hp
        unfold fb2 at hp
        split at hp
        · rename_i c lo hi el fl
          split at hp
          · rename_i hcond
            obtain ⟨g1, g2, g3, l, hl, hby⟩ := hcond
            cases hp
            obtain ⟨cs, c1, c2, c3⟩ := hR.loads hl k2
            have hln : l.length = n := by rw [← c1.1, c2]
            obtain ⟨d, hd1, hd2⟩ : ∃ d : List UInt8, d.length = n ∧ ∀ (j : Nat) (z : UInt8), d[j]? = some z → l[j]? = some (AV.int .u8 (z.toNat : Int)) := by
              refine ⟨l.map fun v => match v with | AV.int _ b => UInt8.ofNat b.toNat | _ => 0, by simp [hln], fun j z hj => ?_⟩
              rw [List.getElem?_map, Option.map_eq_some_iff] at hj
              obtain ⟨v, hv, rfl⟩ := hj
              obtain ⟨b, hb, rfl⟩ := hby v (List.mem_of_getElem? hv)
              rw [hv]
              simp only [Int.toNat_natCast, UInt8.toNat_ofNat']
              rw [Nat.mod_eq_of_lt hb]
            have hcs : ∀ (j : Nat) (z : UInt8), d[j]? = some z → w.cell? ⟨e.b i, o + j, none⟩ = some (.int .u8 (z.toNat : Int)) := by
              intro j z hj
              obtain ⟨v', hv', hr'⟩ := c1.get (hd2 j z hj)
              have := hr'.int_inv
              subst this
              exact c3 j _ hv'
            obtain ⟨hN, ob, hob, hor, hF⟩ := hR.obj i _ hg
            cases hor with
            | cells _ _ _ _ _ C fz hn hcc hf0 hf1 hd =>
              have hsz : o + n ≤ C.size := by rw [hn]; omega
              have hH : Holds (fun (b : UInt8) => Value.int .u8 (b.toNat : Int)) w (e.b i) o d.toArray := by
                intro j hj
                have hj' : j < d.length := by simpa using hj
                refine ⟨?_, ?_⟩
                · rw [hcs j d[j] (List.getElem?_eq_getElem hj')]
                  simp [hj']
                · have := hf1 g3 (o + j) (by omega)
                  simp only [World.frozen?, hob]
                  exact this
              obtain rfl : as' = #[.slice (some ⟨e.b i, o, none⟩) n cc, .int .u64 un] := Array.toList_inj.1 (by rw [e1, e2])
              have hcall := Any.internal_strconv_formatBase10 Tryz.lays285 (e.b i) o cc un d.toArray w hH (by simpa [hd1] using hupow) (by omega) (by simpa [hd1] using hbig)
              have hdz : d.toArray.size = n := by simp [hd1]
              rw [hdz] at hcall
              refine ⟨run_enter names0 Tryz.func171 rfl _ w, hcall.mono ?_⟩
              rintro en w' ⟨rfl, m, v', dk, rfl, hinv⟩
              refine ⟨e, _, rfl, e.le_refl, ?_, tup0 e⟩
              have hdk : ∀ t, t < n → dk[t]! = Lib.dg un (n - 1 - t) := fun t ht => hinv.done t (Nat.zero_le _) ht
              have hds := hinv.size
              have hnl : (digs un n).length = n := by simp [digs]
              have hR2 : RH Tryz.prog.globals.size Fr W e { H with h := H.h.upd i (.cells (c.puts off (digs un n)) lo hi el fl) } (putRow (fun (b : UInt8) => Value.int .u8 (b.toNat : Int)) w (e.b i) o dk) := by
                refine hR.put hg (by simp [wr, g3]) (ob' := .cells (putCells (fun (b : UInt8) => Value.int .u8 (b.toNat : Int)) o dk C) el fz) ?_ ?_ ?_ ?_ rfl rfl rfl
                · simp [putRow, mapBlock]
                · simp only [putRow, mapBlock]
                  rw [get_modify_same _ _ _ hob]
                  rfl
                · intro k hk
                  simp only [putRow, mapBlock]
                  rw [get_modify_ne _ _ _ _ (fun q => hk q.symm)]
                · have hps : (putCells (fun (b : UInt8) => Value.int .u8 (b.toNat : Int)) o dk C).size = C.size := by simp [putCells]
                  refine .cells _ lo hi el fl _ fz (by rw [hps]; exact hn) ?_ hf0 (by rw [hps]; exact hf1) hd
                  intro k u' a b hk
                  rw [Tr.get_putsA, hnl] at hk
                  by_cases hin : off ≤ k ∧ k < off + n
                  · rw [if_pos hin] at hk
                    have hj : k - off < n := by omega
                    have hu : u' = .int .u8 ((Lib.dg un (n - 1 - (k - off))).toNat) := by
                      have : (digs un n)[k - off]? = some (.int .u8 ((Lib.dg un (n - 1 - (k - off))).toNat)) := by simp [digs, hj]
                      rw [this] at hk
                      exact (Option.some.inj hk).symm
                    subst hu
                    refine ⟨o + (k - off), by omega, .int .u8 ((Lib.dg un (n - 1 - (k - off))).toNat), ?_, .int _ _⟩
                    have hC : o + (k - off) < C.size := by omega
                    simp only [putCells]
                    rw [Array.getElem?_mapIdx, Array.getElem?_eq_getElem hC]
                    simp only [Option.map_some]
                    rw [if_pos (by omega), Nat.add_sub_cancel_left, hdk _ hj]
                  · rw [if_neg hin] at hk
                    obtain ⟨k2', hk2', u2, hu2, hr'⟩ := hcc k u' a b hk
                    refine ⟨k2', hk2', u2, ?_, hr'⟩
                    simp only [putCells]
                    rw [Array.getElem?_mapIdx, hu2]
                    simp only [Option.map_some]
                    rw [if_neg (by omega)]
              exact hR2.drawn _
          · cases hp
        · cases hp
      · omega
    · cases hp
  · cases hp
/-! strconv.Atoi -/
theorem ErrA.cells {Fr : Nat → Prop} {W : World} {e : Em} {H : Hp} {w : World} (h : ErrA H) (hR : RH Tryz.prog.globals.size Fr W e H w) :
    (∃ t p, w.cell? ⟨6, 0, none⟩ = some (.iface t p)) ∧ ∃ t p, w.cell? ⟨7, 0, none⟩ = some (.iface t p) := by
  have hs2 : 6 < Tryz.prog.globals.size := by rw [← Nat.blt_eq]; kernel_rfl
  have hs3 : 7 < Tryz.prog.globals.size := by rw [← Nat.blt_eq]; kernel_rfl
  have key : ∀ g k v, g < Tryz.prog.globals.size → cellAt H g (k : Nat) = some v → ∃ v', w.cell? ⟨g, k, none⟩ = some v' ∧ VR e v v' := by
    intro g k v hg hc
    obtain ⟨_, o, ho, v', h1, h2⟩ := hR.load hc
    obtain ⟨_, hb, hd⟩ := hR.glob g hg
    rw [hb] at h1
    rw [hd] at ho
    obtain rfl : o = k := by omega
    exact ⟨v', h1, h2⟩
  refine ⟨?_, ?_⟩
  · obtain ⟨t, p, hc⟩ := h.syn
    obtain ⟨v', h1, h2⟩ := key _ 0 _ hs2 hc
    cases h2
    exact ⟨_, _, h1⟩
  · obtain ⟨t, p, hc⟩ := h.rng
    obtain ⟨v', h1, h2⟩ := key _ 0 _ hs3 hc
    cases h2
    exact ⟨_, _, h1⟩
theorem u8_bytes (s : ByteArray) : u8of (Am.bytes s) = s.data.toList := by
  unfold u8of Am.bytes
  rw [List.map_map, List.map_congr_left (g := id) (fun x _ => by simp)]
  simp
theorem atoiOne : PrimOne Tryz.prog 178 atoiP := by
  intro args H v H' hp F W e w as' hR ha
  unfold atoiP at hp
  split at hp
  · rename_i s
    split at hp
    · rename_i hx
      cases hp
      obtain ⟨hE, hlen⟩ := hx
      obtain ⟨a', r1, e1, hv1, hr1⟩ := ha.cons_inv
      have e3 := hr1.nil_inv
      subst e3
      obtain ⟨s', rfl, rfl⟩ := hv1.str_inv
      obtain rfl : as' = #[.string s'] := Array.toList_inj.1 e1
      refine ⟨run_enter names0 Tryz.func178 rfl _ w, ?_⟩
      have hl : s'.size ≤ 281474976710656 := by
        have : s'.size = (Am.bytes s').length := by simp [Am.bytes]
        omega
      obtain ⟨⟨t1, p1, q1⟩, ⟨t2, p2, q2⟩⟩ := hE.cells hR
      unfold atoiR
      rw [u8_bytes]
      cases hr : Lib.atoiAll s'.data.toList with
      | ok v =>
        refine (Any.strconv_Atoi_ok Tryz.laysC172 s' (by omega) v hr w).mono ?_
        rintro en w' ⟨rfl, hw⟩
        refine ⟨e, _, rfl, e.le_refl, ?_, VR.two (.int _ _) .nilIface⟩
        rcases hw with rfl | ⟨t, rfl⟩
        · exact hR
        · exact hR.below (Lib.bytesWorld_below _ _ _)
      | range =>
        refine (Any.strconv_Atoi_range Tryz.laysC172 s' hl hr _ w q2 (.inr ⟨_, _, rfl⟩)).mono ?_
        rintro en w' ⟨N, rfl, _, _, hb⟩
        exact ⟨e, _, rfl, e.le_refl, hR.below hb, VR.two (.int _ _) (.iface _ _ _ (.junk _))⟩
      | _ =>
        refine (Any.strconv_Atoi_syntax Tryz.laysC172 s' hl hr _ w q1 (.inr ⟨_, _, rfl⟩)).mono ?_
        rintro en w' ⟨N, rfl, _, _, hb⟩
        exact ⟨e, _, rfl, e.le_refl, hR.below hb, VR.two (.int _ _) (.iface _ _ _ (.junk _))⟩
    · cases hp
  · cases hp
end Go.Proofs.YtkhhnpkmblldbaaGreatDoor.LibP
namespace Go.Proofs.YtkhhnpkmblldbaaGreatDoor.DfEnv
open Go Go.RowKit Am
set_option linter.unusedVariables false
set_option maxRecDepth 100000

def ext (g : Nat) : Option Ext := bif Nat.beq g 173 then some .same else bif Nat.beq g 174 then some (.noZero 73) else bif Nat.beq g 202 then some .idxByte else bif Nat.beq g 176 then some .count else none
theorem extOK : ExtOK Tryz.prog ext := by
  intro fid k h as' w
  unfold ext at h
  cases h1 : Nat.beq fid 173 with
  | true =>
    rw [h1] at h
    cases h
    obtain rfl := Nat.eq_of_beq_eq_true h1
    exact ext_of (e := Extern.AbiNoEscape.same) Tryz.func173 (by kernel_rfl) (by kernel_rfl) (by kernel_rfl) (by kernel_rfl) rfl as' w
  | false =>
    rw [h1] at h
    clear h1
    cases h1 : Nat.beq fid 174 with
    | true =>
      rw [h1] at h
      cases h
      obtain rfl := Nat.eq_of_beq_eq_true h1
      exact ext_of (e := Extern.BytealgMakeNoZero.makeNoZero #[] #[73]) Tryz.func174 (by kernel_rfl) (by kernel_rfl) (by kernel_rfl) (by kernel_rfl) rfl as' w
    | false =>
      rw [h1] at h
      clear h1
      cases h1 : Nat.beq fid 202 with
      | true =>
        rw [h1] at h
        cases h
        obtain rfl := Nat.eq_of_beq_eq_true h1
        exact ext_of (e := Extern.BytealgIndexByte.indexByte) Tryz.func202 (by kernel_rfl) (by kernel_rfl) (by kernel_rfl) (by kernel_rfl) rfl as' w
      | false =>
        rw [h1] at h
        clear h1
        cases h1 : Nat.beq fid 176 with
        | true =>
          rw [h1] at h
          cases h
          obtain rfl := Nat.eq_of_beq_eq_true h1
          exact ext_of (e := Extern.BytealgCount.count) Tryz.func176 (by kernel_rfl) (by kernel_rfl) (by kernel_rfl) (by kernel_rfl) rfl as' w
        | false =>
          rw [h1] at h
          clear h1
          cases h
noncomputable def prim0 (g : Nat) : Option Prim := bif Nat.beq g 96 then some Am.trimP else none
theorem prim0OK : PrimOK Tryz.prog prim0 := by
  intro fid p h args H v H' hp
  unfold prim0 at h
  cases h1 : Nat.beq fid 96 with
  | true =>
    rw [h1] at h
    cases h
    obtain rfl := Nat.eq_of_beq_eq_true h1
    exact TrimWalk.trimOne args H v H' hp
  | false =>
    rw [h1] at h
    clear h1
    cases h
theorem namesOK : NamesOK Tryz.prog := by unfold NamesOK; kernel_rfl
theorem mixed : Tryz.prog.follows .mixedOrders = true := by kernel_rfl

def pow10 : List Int := [1, 10, 100, 1000, 10000, 100000, 1000000, 10000000, 100000000, 1000000000, 10000000000, 100000000000, 1000000000000, 10000000000000, 100000000000000, 1000000000000000, 10000000000000000, 100000000000000000, 1000000000000000000, 10000000000000000000]
def tab32 : List Int := [0, 1, 28, 2, 29, 14, 24, 3, 30, 22, 20, 15, 25, 17, 4, 8, 31, 27, 13, 23, 21, 19, 16, 7, 26, 12, 18, 6, 11, 5, 10, 9]
def tab64 : List Int := [0, 1, 56, 2, 57, 49, 28, 3, 61, 58, 42, 50, 38, 29, 17, 4, 62, 47, 59, 36, 45, 43, 51, 22, 53, 39, 33, 30, 24, 18, 12, 5, 63, 55, 48, 27, 60, 41, 37, 16, 46, 35, 44, 21, 52, 32, 23, 11, 54, 26, 40, 15, 34, 20, 31, 10, 25, 14, 19, 9, 13, 8, 7, 6]
def begin0 : List (Nat × List AV) := [(0, pow10.map (AV.int .u64)), (4, tab32.map (AV.int .u8)), (5, tab64.map (AV.int .u8)), (6, [.iface 295 (.ptr 10 0)]), (7, [.iface 295 (.ptr 9 0)])]

abbrev laid : List (String × DataW Unit) := [("math/bits.deBruijn32tab", Rows.laid_math_bits_deBruijn32tab), ("math/bits.deBruijn64tab", Rows.laid_math_bits_deBruijn64tab), ("internal/strconv.uint64pow10", Rows.laid_internal_strconv_uint64pow10), ("unicode/utf8.acceptRanges", Rows.laid_unicode_utf8_acceptRanges), ("strconv.ErrRange", Rows.laid_strconv_ErrRange), ("strconv.ErrSyntax", Rows.laid_strconv_ErrSyntax), ("unicode/utf8.first", Rows.laid_unicode_utf8_first)]

theorem star : "*" ++ "errors.errorString" = "*errors.errorString" := by decide
theorem rowErr (u : TypeId) (h : Tryz.prog.typeName? 3 u = some "*errors.errorString") : u = 295 :=
  typeName_ptr_named (nm := "errors.errorString") (by rw [star]; kernel_rfl) (by kernel_rfl) (by decide) u (by rw [star]; exact h)

theorem begins {W : World} (h : laidMet Tryz.prog laid W) (hsz : 8 ≤ W.heap.size) (bx : Nat → Nat) (dx : Nat → Int) (nx : Nat → Nat) {N : Nat} (hN : 11 ≤ N) {PO : List (Nat × AO)}
    (hP : ∀ i o, (i, o) ∈ PO → 11 ≤ i ∧ i < N ∧ wr o = false ∧ ∃ ob, W.heap[bx i]? = some ob ∧ ∀ e : Em, e.N = N → (∀ j, 11 ≤ j → e.b j = bx j ∧ e.d j = dx j ∧ e.n j = nx j) → OR e i o ob) :
    ∃ e, RH Tryz.prog.globals.size (fun k => k < W.heap.size) W e ⟨layP PO (layO (elAt W) begin0), N⟩ W ∧ e.N = N ∧ ∀ j, 11 ≤ j → e.b j = bx j ∧ e.d j = dx j ∧ e.n j = nx j := by
  have hs : Tryz.prog.globals.size = 8 := by kernel_rfl
  rw [hs]
  obtain ⟨b0, o0, t0, w0⟩ := laid_err (n := "strconv.ErrRange") (nm := "*errors.errorString") (tp := 295) (te := 297) (ts := 9) h (.tail _ (.tail _ (.tail _ (.tail _ (.head _))))) (g := 7) (ti := 188) (by kernel_rfl) (by kernel_rfl) Tryz.underlying188 rowErr Tryz.underlying295 Tryz.underlying297 rfl rfl Tryz.underlying9 (by kernel_rfl) (by kernel_rfl)
  obtain ⟨b1, o1, t1, w1⟩ := laid_err (n := "strconv.ErrSyntax") (nm := "*errors.errorString") (tp := 295) (te := 297) (ts := 9) h (.tail _ (.tail _ (.tail _ (.tail _ (.tail _ (.head _)))))) (g := 6) (ti := 188) (by kernel_rfl) (by kernel_rfl) Tryz.underlying188 rowErr Tryz.underlying295 Tryz.underlying297 rfl rfl Tryz.underlying9 (by kernel_rfl) (by kernel_rfl)
  let bz : Nat → Nat := fun i => if i = 9 then b0 else if i = 10 then b1 else bx i
  let dz : Nat → Int := fun i => if i = 9 then (o0 : Int) else if i = 10 then (o1 : Int) else dx i
  have T0 := fun em : Em => laid_table (name := "internal/strconv.uint64pow10") (k := .u64) (zs := pow10) h (.tail _ (.tail _ (.head _))) (g := 0) (by kernel_rfl) (by kernel_rfl) Tryz.underlying259 Tryz.underlying132 (by kernel_rfl) (by kernel_rfl) (by decide) em
  have T4 := fun em : Em => laid_table (name := "math/bits.deBruijn32tab") (k := .u8) (zs := tab32) h (.head _) (g := 4) (by kernel_rfl) (by kernel_rfl) Tryz.underlying278 Tryz.underlying5 (by kernel_rfl) (by kernel_rfl) (by decide) em
  have T5 := fun em : Em => laid_table (name := "math/bits.deBruijn64tab") (k := .u8) (zs := tab64) h (.tail _ (.head _)) (g := 5) (by kernel_rfl) (by kernel_rfl) Tryz.underlying279 Tryz.underlying5 (by kernel_rfl) (by kernel_rfl) (by decide) em
  have hj : ∀ j, 11 ≤ j → (Am.start W 8 N bz dz nx).b j = bx j ∧ (Am.start W 8 N bz dz nx).d j = dx j ∧ (Am.start W 8 N bz dz nx).n j = nx j := by
    intro j hj
    refine ⟨?_, ?_, ?_⟩ <;> simp only [Am.start, bz, dz] <;> (repeat rw [if_neg (by omega)])
  refine ⟨Am.start W 8 N bz dz nx, RH.start bz dz nx (by omega) (by decide) hsz ?_ ?_, rfl, hj⟩
  · intro g l hm
    simp only [begin0, List.mem_cons, Prod.mk.injEq, List.mem_nil_iff, or_false] at hm
    rcases hm with ⟨rfl, rfl⟩ | ⟨rfl, rfl⟩ | ⟨rfl, rfl⟩ | ⟨rfl, rfl⟩ | ⟨rfl, rfl⟩
    · exact ⟨by decide, by decide, T0 _⟩
    · exact ⟨by decide, by decide, T4 _⟩
    · exact ⟨by decide, by decide, T5 _⟩
    · refine ⟨by decide, by decide, _, t1, w1, fun k v hv => ?_⟩
      cases k with
      | zero =>
        simp only [List.getElem?_cons_zero, Option.some.injEq] at hv
        subst hv
        exact ⟨_, rfl, .iface _ _ _ (.ptr (e := Am.start W 8 N bz dz nx) 10 0 o1 (show (10 : Nat) < N by omega) (by simp [Am.start, dz]))⟩
      | succ k => simp at hv
    · refine ⟨by decide, by decide, _, t0, w0, fun k v hv => ?_⟩
      cases k with
      | zero =>
        simp only [List.getElem?_cons_zero, Option.some.injEq] at hv
        subst hv
        exact ⟨_, rfl, .iface _ _ _ (.ptr (e := Am.start W 8 N bz dz nx) 9 0 o0 (show (9 : Nat) < N by omega) (by simp [Am.start, dz]))⟩
      | succ k => simp at hv
  · intro i o hm
    obtain ⟨h1, h2, h3, ob, h4, h5⟩ := hP i o hm
    exact ⟨by omega, h2, h3, ob, by have := (hj i h1).1; simp only [Am.start, if_neg (show ¬ i < 8 by omega)] at this; rw [this]; exact h4, h5 _ rfl hj⟩

theorem gsize : Tryz.prog.globals.size < 11 := by
  have hs : Tryz.prog.globals.size = 8 := by kernel_rfl
  omega
theorem awakeF (el : Nat → TypeId) : retTrue (callA (Tryz.prog) ext prim0 20000 14 [] ⟨layO el begin0, 11⟩) = true := by kernel_rfl
theorem awakeOne : PrimOne Tryz.prog 14 (oneP begin0 11) :=
  one_ok mixed namesOK extOK prim0OK Tryz.func14 rfl gsize
    (by
      have hs : Tryz.prog.globals.size = 8 := by kernel_rfl
      rw [hs]
      intro g l hm
      simp only [begin0, List.mem_cons, Prod.mk.injEq, List.mem_nil_iff, or_false] at hm; rcases hm with ⟨rfl, rfl⟩ | ⟨rfl, rfl⟩ | ⟨rfl, rfl⟩ | ⟨rfl, rfl⟩ | ⟨rfl, rfl⟩ <;> exact ⟨by decide, by decide, by decide, by decide⟩) fun el => awakeF el
noncomputable def prim1 (g : Nat) : Option Prim := bif Nat.beq g 187 then some LibP.len64P else bif Nat.beq g 171 then some LibP.fb10P else bif Nat.beq g 178 then some LibP.atoiP else bif Nat.beq g 197 then some LibS.sortP else prim0 g
theorem prim1OK : PrimOK Tryz.prog prim1 := by
  intro fid p h args H v H' hp
  unfold prim1 at h
  cases h1 : Nat.beq fid 187 with
  | true =>
    rw [h1] at h
    cases h
    obtain rfl := Nat.eq_of_beq_eq_true h1
    exact LibP.len64One args H v H' hp
  | false =>
    rw [h1] at h
    clear h1
    cases h1 : Nat.beq fid 171 with
    | true =>
      rw [h1] at h
      cases h
      obtain rfl := Nat.eq_of_beq_eq_true h1
      exact LibP.fb10One args H v H' hp
    | false =>
      rw [h1] at h
      clear h1
      cases h1 : Nat.beq fid 178 with
      | true =>
        rw [h1] at h
        cases h
        obtain rfl := Nat.eq_of_beq_eq_true h1
        exact LibP.atoiOne args H v H' hp
      | false =>
        rw [h1] at h
        clear h1
        cases h1 : Nat.beq fid 197 with
        | true =>
          rw [h1] at h
          cases h
          obtain rfl := Nat.eq_of_beq_eq_true h1
          exact LibS.sortOne args H v H' hp
        | false =>
          rw [h1] at h
          clear h1
          exact prim0OK fid p h args H v H' hp
noncomputable def prim (g : Nat) : Option Prim := bif Nat.beq g 14 then some (oneP begin0 11) else prim1 g
theorem primOK : PrimOK Tryz.prog prim := by
  intro fid p h args H v H' hp
  unfold prim at h
  cases h1 : Nat.beq fid 14 with
  | true =>
    rw [h1] at h
    cases h
    obtain rfl := Nat.eq_of_beq_eq_true h1
    exact awakeOne args H v H' hp
  | false =>
    rw [h1] at h
    clear h1
    exact prim1OK fid p h args H v H' hp

/-- what is shown of a law over the symbolic heap holds of the model's run -/
theorem lawRun {Q : Type} {enc : TypeId × Value → Q} {g : Nat} {fn : Func} {b : Code} (hf : Tryz.prog.funcs[g]? = some fn) (hb : fn.body = some b) (an : Nat → K.An) (hA : K.PrOK Tryz.prog an) {W : World} (hL : laidMet Tryz.prog laid W) (hsz : 8 ≤ W.heap.size) {base : Nat} {spare : Nat → Bool} {held : Bool} (hsp : ∀ b, spare b = true) {tys : List K.Ty} {vs : List Value}
    (ha : K.ArgsOf enc Tryz.prog W base spare held tys vs) (law : ∀ H as' ds, K.ArgsIs H tys as' ds → hasT H begin0 → 11 ≤ H.next → ∃ H', K.CK Tryz.prog (K.regK Tryz.prog) ext prim an (.func (.func g) [] []) as' H = some (.bool true, H')) :
    Calls Tryz.prog g vs.toArray W fun en w' => en = .returned (.bool true) ∧ Below W.heap.size W w' := by
  obtain ⟨as', os, ds, a1, a2, a3, a4⟩ := K.open_args hsp ha 11
  have hs : Tryz.prog.globals.size = 8 := by kernel_rfl
  obtain ⟨e, hR, hN, hj⟩ := begins hL hsz (fun i => ((os[i - 11]?).map (·.b)).getD 0) (fun _ => 0) (fun i => ((os[i - 11]?).map (·.n)).getD 0) (N := 11 + os.length) (by omega) (PO := K.poOf 11 os) (by
    intro i o hm
    obtain ⟨j, ob, h1, rfl, rfl⟩ := K.poOf_mem os 11 i o hm
    have hjl := (List.getElem?_eq_some_iff.1 h1).1
    have hfits : ∀ e : Em, e.N = 11 + os.length → (∀ j, 11 ≤ j → e.b j = ((os[j - 11]?).map (·.b)).getD 0 ∧ e.d j = 0 ∧ e.n j = ((os[j - 11]?).map (·.n)).getD 0) → K.Fits e 11 os := by
      intro e he hj
      refine ⟨by omega, fun j o ho => ?_⟩
      obtain ⟨x, y, z⟩ := hj (11 + j) (by omega)
      rw [Nat.add_sub_cancel_left, ho] at x z
      exact ⟨x, y, z⟩
    have hex : ∃ ow, W.heap[ob.b]? = some ow := by
      let e0 : Em := ⟨fun j => ((os[j - 11]?).map (·.b)).getD 0, fun _ => 0, fun j => ((os[j - 11]?).map (·.n)).getD 0, 11 + os.length⟩
      obtain ⟨ow, h, _⟩ := a2 e0 (hfits e0 rfl fun j _ => ⟨rfl, rfl, rfl⟩) j ob h1
      exact ⟨ow, h⟩
    obtain ⟨ow, how⟩ := hex
    refine ⟨by omega, by omega, a3 ob (List.mem_of_getElem? h1), ow, ?_, fun e he hj => ?_⟩
    · rw [Nat.add_sub_cancel_left, h1]; exact how
    · obtain ⟨ow2, h, h2⟩ := a2 e (hfits e he hj) j ob h1
      rw [how] at h; cases h
      exact h2)
  have hfit : K.Fits e 11 os := by
    refine ⟨by omega, fun j o ho => ?_⟩
    obtain ⟨x, y, z⟩ := hj (11 + j) (by omega)
    rw [Nat.add_sub_cancel_left, ho] at x z
    exact ⟨x, y, z⟩
  have hhas : K.Has ⟨layP (K.poOf 11 os) (layO (elAt W) begin0), 11 + os.length⟩ 11 os := ⟨Nat.le_refl _, fun j o ho => K.layP_poOf os 11 _ j o ho⟩
  have hT : hasT ⟨layP (K.poOf 11 os) (layO (elAt W) begin0), 11 + os.length⟩ begin0 := by
    refine ⟨elAt W, fun g l hm => ?_⟩
    have hg : g < 11 := by
      simp only [begin0, List.mem_cons, Prod.mk.injEq, List.mem_nil_iff, or_false] at hm; rcases hm with ⟨rfl, rfl⟩ | ⟨rfl, rfl⟩ | ⟨rfl, rfl⟩ | ⟨rfl, rfl⟩ | ⟨rfl, rfl⟩ <;> decide
    show (layP _ _).get g = _
    rw [K.layP_below os 11 _ g hg]
    exact K.layO_has _ _ (by decide) g l hm
  obtain ⟨H', hk⟩ := law _ as' ds (a4 _ hhas) hT (Nat.le_add_right _ _)
  refine (K.CK_calls mixed namesOK extOK primOK K.regK_sound hA hk hf hb hR (as' := vs.toArray) (by simpa using a1 e hfit)).mono fun en w' ⟨e', v', h1, _, hR', hv⟩ => ?_
  have := hv.bool_inv
  subst this
  exact ⟨h1, ⟨hR'.os, hR'.tape, hR'.output, hR'.size, fun k hk => (hR'.frame k hk).2⟩⟩
/-- awake, from whatever heap has the listed variables -/
theorem awake_c (an : Nat → K.An) {H : Hp} (hT : hasT H begin0) (hn : 11 ≤ H.next) : K.CK Tryz.prog (K.regK Tryz.prog) ext prim an (.func (.func 14) [] []) [] H = some (.bool true, H) := by
  refine K.ck_prim (p := oneP begin0 11) (by kernel_rfl) ?_
  unfold oneP
  rw [if_pos ⟨rfl, hT, hn⟩]
end Go.Proofs.YtkhhnpkmblldbaaGreatDoor.DfEnv
namespace Go.Proofs.YtkhhnpkmblldbaaGreatDoor.DfK
open Go Am Am.K DfEnv
set_option linter.unusedVariables false
set_option maxRecDepth 100000
noncomputable section
noncomputable abbrev P : Program := Tryz.prog
noncomputable def anL : List (Nat × An) := [
 (60, (.n (.n .nl))),
 (56, (.n (.n .nl))),
 (91, (.n (.n .nl))),
 (120, (.n (.s [] (.n (.v [] (.lp [1, 2, 10] (.n (.q (.cd .nl .nl) (.b (.n (.t [1, 2, 7, 10, 19] (.cd (.n .nl) .nl))))))))) (.n .nl)))),
 (54, (.n (.s [] (.n (.b (.n (.cd (.n .nl) (.n (.cd (.n .nl) (.s [3, 8] (.n (.cd .nl .nl)) (.cd (.n .nl) (.n (.cd (.n .nl) (.s [3, 13] (.n (.cd .nl .nl)) (.cd (.n .nl) (.n (.cd (.n .nl) (.n (.cd (.n .nl) .nl)))))))))))))))) (.n .nl)))),
 (92, (.n (.n .nl))),
 (58, (.n (.s [2] (.n (.b (.n (.cd (.n .nl) (.n (.cd (.n .nl) (.n (.cd (.n .nl) (.n (.cd (.n (.s [2, 5] (.n (.cd .nl .nl)) (.n .nl))) (.n (.cd (.n .nl) (.n (.cd (.n .nl) .nl)))))))))))))) (.s [2] (.n (.cd (.n .nl) .nl)) (.n .nl))))),
 (55, (.n (.t [1, 2, 4, 5] (.s [4, 5] (.n (.v [4, 5] (.lp [2, 4, 5, 12] (.n (.q (.cd .nl .nl) (.v [2, 4, 5, 12] (.n (.n (.v [2, 4, 5, 12] (.n (.cd .nl (.n (.cd .nl (.n (.cd .nl (.n (.cd .nl (.n (.cd .nl (.n (.cd .nl (.n (.cd .nl .nl))))))))))))))))))))))) (.n .nl))))),
 (27, (.n (.n (.n .nl)))),
 (57, (.n (.n .nl))),
 (37, (.n (.n .nl))),
 (15, (.n (.n .nl))),
 (16, (.n (.q (.n (.cd (.n .nl) .nl)) (.s [0, 3] (.n (.b (.n (.cd (.n .nl) (.n (.cd (.n .nl) (.n (.cd (.n .nl) (.n (.cd (.n .nl) .nl)))))))))) (.s [0, 3] (.t [0, 3, 38] (.cd (.n .nl) .nl)) (.n .nl)))))),
 (40, (.n (.s [0, 1] (.t [0, 1, 11] (.cd (.n .nl) .nl)) (.t [0, 1] (.s [] (.t [0, 1, 20, 21] (.v [] (.lp [0, 1, 20, 21] (.n (.q (.cd .nl .nl) (.s [0, 1, 20, 21] (.b (.n .nl)) .nl)))))) (.n .nl)))))),
 (17, (.n (.n .nl))),
 (3, (.n (.q (.n (.cd (.n .nl) .nl)) (.q (.n (.cd (.n .nl) .nl)) (.n (.n (.s [] (.n (.v [] (.lp [0, 3, 4, 5] (.q (.n (.cd .nl .nl)) (.s [0, 3, 4, 5] (.b (.t [0, 3, 4, 5, 6] (.t [0, 3, 4, 5, 6, 7] (.s [0, 3, 4, 5, 7] (.n (.cd (.n .nl) .nl)) (.s [0, 3, 4, 5] (.n (.cd .nl .nl)) (.n (.cd (.n .nl) .nl))))))) .nl))))) (.n .nl)))))))),
 (0, .nl)]
noncomputable def an (g : Nat) : An := lkA anL g
theorem anOK : PrOK P an := lkA_plain (by kernel_rfl)
noncomputable abbrev cK : CF := CK P (regK P) ext prim an

noncomputable def s_def_Name (J : JT) (G : GT) (cf : CF) (a0 : AV) (H : Hp) : R :=
 B1 (sne a0 (.str [])) fun v0 =>
 G v0 true (fun k1 =>
 k1 a0 H) (fun v2 h3 =>
 G v0 true (fun k4 =>
 B1 (lens v2) fun v5 =>
 k4 v5 h3) (fun v6 h7 =>
 G v0 true (fun k8 =>
 B1 (ile v6 (.int .i64 16)) fun v9 =>
 k8 v9 h7) (fun v10 h11 =>
 B1 (pk v0 v10 (.bool false)) fun v12 =>
 G v12 true (fun k13 =>
 k13 a0 h11) (fun v14 h15 =>
 G v12 true (fun k16 =>
 B2 (cf (.func (.func 96) [] []) [v14, (.str [97, 98, 99, 100, 101, 102, 103, 104, 105, 106, 107, 108, 109, 110, 111, 112, 113, 114, 115, 116, 117, 118, 119, 120, 121, 122, 48, 49, 50, 51, 52, 53, 54, 55, 56, 57])] h15) fun v17 h18 =>
 k16 v17 h18) (fun v19 h20 =>
 G v12 true (fun k21 =>
 B1 (seq v19 (.str [])) fun v22 =>
 k21 v22 h20) (fun v23 h24 =>
 B1 (pk v12 v23 (.bool false)) fun v25 =>
 some (v25, h24)) h20) h15) h11) h7) h3) H

theorem e_def_Name (J : JT) (G : GT) (cf : CF) (a0 : AV) (H : Hp) : callF P J G prim an cf 60 [a0] H = s_def_Name J G cf a0 H := by kernel_rfl

theorem c_def_Name {a0 : AV} {H : Hp} {r : AV × Hp} (h : s_def_Name JN GO cK a0 H = some r) : cK (.func (.func 60) [] []) [a0] H = some r := callF_fix (first := []) (cap := []) ((e_def_Name JN GO _ a0 H).trans h)

noncomputable def s_strings_ContainsFunc (J : JT) (G : GT) (cf : CF) (a0 a1 : AV) (H : Hp) : R :=
 B2 (cf (.func (.func 91) [] []) [a0, a1] H) fun v0 h1 =>
 B1 (ige v0 (.int .i64 0)) fun v2 =>
 some (v2, h1)

theorem e_strings_ContainsFunc (J : JT) (G : GT) (cf : CF) (a0 a1 : AV) (H : Hp) : callF P J G prim an cf 56 [a0, a1] H = s_strings_ContainsFunc J G cf a0 a1 H := by kernel_rfl

theorem c_strings_ContainsFunc {a0 a1 : AV} {H : Hp} {r : AV × Hp} (h : s_strings_ContainsFunc JN GO cK a0 a1 H = some r) : cK (.func (.func 56) [] []) [a0, a1] H = some r := callF_fix (first := []) (cap := []) ((e_strings_ContainsFunc JN GO _ a0 a1 H).trans h)

noncomputable def s_strings_IndexFunc (J : JT) (G : GT) (cf : CF) (a0 a1 : AV) (H : Hp) : R :=
 B2 (cf (.func (.func 120) [] []) [a0, a1, (.bool true)] H) fun v0 h1 =>
 some (v0, h1)

theorem e_strings_IndexFunc (J : JT) (G : GT) (cf : CF) (a0 a1 : AV) (H : Hp) : callF P J G prim an cf 91 [a0, a1] H = s_strings_IndexFunc J G cf a0 a1 H := by kernel_rfl

theorem c_strings_IndexFunc {a0 a1 : AV} {H : Hp} {r : AV × Hp} (h : s_strings_IndexFunc JN GO cK a0 a1 H = some r) : cK (.func (.func 91) [] []) [a0, a1] H = some r := callF_fix (first := []) (cap := []) ((e_strings_IndexFunc JN GO _ a0 a1 H).trans h)

noncomputable def bl_strings_indexFunc (J : JT) (G : GT) (cf : CF) (j3 : K.Fn 0) (j4 : K.Fn 3) (x5 x6 x7 : AV) (h8 : Hp) : R :=
 B2 (nextA x7 true h8) fun v9 h10 =>
 B1 (ex 0 v9) fun v11 =>
 CD v11 (
 B1 (ex 1 v9) fun v12 =>
 B1 (ex 2 v9) fun v13 =>
 J 5 (fun j14 =>
 B2 (cf x5 [v13] h10) fun v15 h16 =>
 B1 (bb .eql v15 x6) fun v17 =>
 j14 x5 x6 v12 x7 v17 h16) (fun x18 x19 x20 x21 x22 h23 =>
 CD x22 (
 some (x20, h23)) (
 j4 x18 x19 x21 h23))) (
 j3  h10)

noncomputable def l_strings_indexFunc (J : JT) (G : GT) (cf : CF) (j3 : K.Fn 0) : K.Fn 3 := lpF P an J G cf 120 [1, 0, 1, 0, 0] [1, 2, 10] (fun q t H => match Nat.beq q 0 with | true => app 0 j3 (vals [] t) H | false => (fun _ _ _ => none) q t H)

theorem rl_strings_indexFunc (J : JT) (G : GT) (cf : CF) (j3 : K.Fn 0) (j4 : K.Fn 3) (x5 x6 x7 : AV) (h8 : Hp) : lpB P an J G cf 120 [1, 0, 1, 0, 0] [1, 2, 10] (fun q t H => match Nat.beq q 0 with | true => app 0 j3 (vals [] t) H | false => (fun _ _ _ => none) q t H) j4 [x5, x6, x7] h8 = bl_strings_indexFunc J G cf j3 j4 x5 x6 x7 h8 := by kernel_rfl

theorem ql_strings_indexFunc (cf : CF) (j3 : K.Fn 0) (x5 x6 x7 : AV) (h8 : Hp) : l_strings_indexFunc JN GO cf j3 x5 x6 x7 h8 = bl_strings_indexFunc JN GO cf j3 (l_strings_indexFunc JN GO cf j3) x5 x6 x7 h8 := Eq.trans (b := app 3 (l_strings_indexFunc JN GO cf j3) [x5, x6, x7] h8) (by kernel_rfl) ((lpQ cf _ _ _ _ [x5, x6, x7] rfl h8).trans (rl_strings_indexFunc JN GO cf j3 _ x5 x6 x7 h8))

noncomputable def s_strings_indexFunc (J : JT) (G : GT) (cf : CF) (a0 a1 a2 : AV) (H : Hp) : R :=
 J 0 (fun j0 =>
 B2 (rangeA P 9 a0 H) fun v1 h2 =>
 J 0 (fun j3 =>
 l_strings_indexFunc J G cf j3 a1 a2 v1 h2) (fun  h24 =>
 j0  h24)) (fun  h25 =>
 some ((.int .i64 (-1)), h25))

theorem e_strings_indexFunc (J : JT) (G : GT) (cf : CF) (a0 a1 a2 : AV) (H : Hp) : callF P J G prim an cf 120 [a0, a1, a2] H = s_strings_indexFunc J G cf a0 a1 a2 H := by kernel_rfl

theorem c_strings_indexFunc {a0 a1 a2 : AV} {H : Hp} {r : AV × Hp} (h : s_strings_indexFunc JN GO cK a0 a1 a2 H = some r) : cK (.func (.func 120) [] []) [a0, a1, a2] H = some r := callF_fix (first := []) (cap := []) ((e_strings_indexFunc JN GO _ a0 a1 a2 H).trans h)

noncomputable def s_event_fields (J : JT) (G : GT) (cf : CF) (a0 : AV) (H : Hp) : R :=
 J 0 (fun j0 =>
 B1 (ieq a0 (.int .i64 1)) fun v1 =>
 CD v1 (
 some ((.str [77, 68]), H)) (
 B1 (ieq a0 (.int .i64 2)) fun v2 =>
 CD v2 (
 some ((.str [82, 77, 75]), H)) (
 J 2 (fun j3 =>
 B1 (ieq a0 (.int .i64 3)) fun v4 =>
 CD v4 (
 j3 a0 v4 H) (
 B1 (ieq a0 (.int .i64 5)) fun v5 =>
 j3 a0 v5 H)) (fun x6 x7 h8 =>
 CD x7 (
 some ((.str [82, 84, 89]), h8)) (
 B1 (ieq x6 (.int .i64 4)) fun v9 =>
 CD v9 (
 some ((.str [82, 84, 89, 68]), h8)) (
 J 2 (fun j10 =>
 B1 (ieq x6 (.int .i64 6)) fun v11 =>
 CD v11 (
 j10 x6 v11 h8) (
 B1 (ieq x6 (.int .i64 9)) fun v12 =>
 j10 x6 v12 h8)) (fun x13 x14 h15 =>
 CD x14 (
 some ((.str [78]), h15)) (
 B1 (ieq x13 (.int .i64 7)) fun v16 =>
 CD v16 (
 some ((.str [82, 77]), h15)) (
 B1 (ieq x13 (.int .i64 8)) fun v17 =>
 CD v17 (
 some ((.str [82]), h15)) (
 j0  h15)))))))))) (fun  h18 =>
 some ((.str []), h18))

theorem e_event_fields (J : JT) (G : GT) (cf : CF) (a0 : AV) (H : Hp) : callF P J G prim an cf 54 [a0] H = s_event_fields J G cf a0 H := by kernel_rfl

theorem c_event_fields {a0 : AV} {H : Hp} {r : AV × Hp} (h : s_event_fields JN GO cK a0 H = some r) : cK (.func (.func 54) [] []) [a0] H = some r := callF_fix (first := []) (cap := []) ((e_event_fields JN GO _ a0 H).trans h)

noncomputable def s_event_in (J : JT) (G : GT) (cf : CF) (a0 a1 a2 : AV) (H : Hp) : R :=
 B1 (ige a0 a1) fun v0 =>
 G v0 true (fun k1 =>
 k1 a0 H) (fun v2 h3 =>
 G v0 true (fun k4 =>
 k4 a2 h3) (fun v5 h6 =>
 G v0 true (fun k7 =>
 B1 (ile v2 v5) fun v8 =>
 k7 v8 h6) (fun v9 h10 =>
 B1 (pk v0 v9 (.bool false)) fun v11 =>
 some (v11, h10)) h6) h3) H

theorem e_event_in (J : JT) (G : GT) (cf : CF) (a0 a1 a2 : AV) (H : Hp) : callF P J G prim an cf 92 [a0, a1, a2] H = s_event_in J G cf a0 a1 a2 H := by kernel_rfl

theorem c_event_in {a0 a1 a2 : AV} {H : Hp} {r : AV × Hp} (h : s_event_in JN GO cK a0 a1 a2 H = some r) : cK (.func (.func 92) [] []) [a0, a1, a2] H = some r := callF_fix (first := []) (cap := []) ((e_event_in JN GO _ a0 a1 a2 H).trans h)

noncomputable def s__event_Event_good (J : JT) (G : GT) (cf : CF) (a0 a1 : AV) (H : Hp) : R :=
 BN (bx 29 a0 H) fun i0 h1 =>
 J 1 (fun j2 =>
 B1 (ieq a1 (.int .i32 82)) fun v3 =>
 CD v3 (
 B1 (fa 1 (.ptr i0 0)) fun v4 =>
 B1 (ld v4 h1) fun v5 =>
 B2 (cf (.func (.func 92) [] []) [v5, (.int .i64 1), (.int .i64 64)] h1) fun v6 h7 =>
 some (v6, h7)) (
 B1 (ieq a1 (.int .i32 84)) fun v8 =>
 CD v8 (
 B1 (fa 2 (.ptr i0 0)) fun v9 =>
 B1 (ld v9 h1) fun v10 =>
 B2 (cf (.func (.func 92) [] []) [v10, (.int .i64 0), (.int .i64 15)] h1) fun v11 h12 =>
 some (v11, h12)) (
 B1 (ieq a1 (.int .i32 89)) fun v13 =>
 CD v13 (
 B1 (fa 3 (.ptr i0 0)) fun v14 =>
 B1 (ld v14 h1) fun v15 =>
 B2 (cf (.func (.func 92) [] []) [v15, (.int .i64 1), (.int .i64 9)] h1) fun v16 h17 =>
 some (v16, h17)) (
 B1 (ieq a1 (.int .i32 78)) fun v18 =>
 CD v18 (
 J 2 (fun j19 =>
 B1 (fa 0 (.ptr i0 0)) fun v20 =>
 B1 (ld v20 h1) fun v21 =>
 B1 (ieq v21 (.int .i64 9)) fun v22 =>
 CD v22 (
 j19 (.ptr i0 0) (.int .i64 1048575) h1) (
 j19 (.ptr i0 0) (.int .i64 1099511627776) h1)) (fun x23 x24 h25 =>
 B1 (fa 4 x23) fun v26 =>
 B1 (ld v26 h25) fun v27 =>
 B1 (ige v27 (.int .i64 1)) fun v28 =>
 G v28 true (fun k29 =>
 B1 (fa 4 x23) fun v30 =>
 k29 v30 h25) (fun v31 h32 =>
 G v28 true (fun k33 =>
 B1 (ld v31 h32) fun v34 =>
 k33 v34 h32) (fun v35 h36 =>
 G v28 true (fun k37 =>
 k37 x24 h36) (fun v38 h39 =>
 G v28 true (fun k40 =>
 B1 (ile v35 v38) fun v41 =>
 k40 v41 h39) (fun v42 h43 =>
 B1 (pk v28 v42 (.bool false)) fun v44 =>
 some (v44, h43)) h39) h36) h32) h25)) (
 B1 (ieq a1 (.int .i32 77)) fun v45 =>
 CD v45 (
 B1 (fa 5 (.ptr i0 0)) fun v46 =>
 B1 (ld v46 h1) fun v47 =>
 B2 (cf (.func (.func 60) [] []) [v47] h1) fun v48 h49 =>
 some (v48, h49)) (
 B1 (ieq a1 (.int .i32 75)) fun v50 =>
 CD v50 (
 B1 (fa 6 (.ptr i0 0)) fun v51 =>
 B1 (ld v51 h1) fun v52 =>
 B1 (lens v52) fun v53 =>
 B1 (ile v53 (.int .i64 16)) fun v54 =>
 some (v54, h1)) (
 j2 (.ptr i0 0) h1))))))) (fun x55 h56 =>
 J 1 (fun j57 =>
 B1 (fa 0 x55) fun v58 =>
 B1 (ld v58 h56) fun v59 =>
 B1 (ieq v59 (.int .i64 1)) fun v60 =>
 CD v60 (
 B1 (fa 7 x55) fun v61 =>
 B1 (ld v61 h56) fun v62 =>
 B1 (lens v62) fun v63 =>
 B1 (ile v63 (.int .i64 900)) fun v64 =>
 some (v64, h56)) (
 j57 x55 h56)) (fun x65 h66 =>
 B1 (fa 7 x65) fun v67 =>
 B1 (ld v67 h66) fun v68 =>
 B1 (lens v68) fun v69 =>
 B1 (ile v69 (.int .i64 64)) fun v70 =>
 some (v70, h66)))

theorem e__event_Event_good (J : JT) (G : GT) (cf : CF) (a0 a1 : AV) (H : Hp) : callF P J G prim an cf 58 [a0, a1] H = s__event_Event_good J G cf a0 a1 H := by kernel_rfl

theorem c__event_Event_good {a0 a1 : AV} {H : Hp} {r : AV × Hp} (h : s__event_Event_good JN GO cK a0 a1 H = some r) : cK (.func (.func 58) [] []) [a0, a1] H = some r := callF_fix (first := []) (cap := []) ((e__event_Event_good JN GO _ a0 a1 H).trans h)
end
end Go.Proofs.YtkhhnpkmblldbaaGreatDoor.DfK
namespace Go.Proofs.YtkhhnpkmblldbaaGreatDoor.DfK
open Go Am Am.K DfEnv
set_option linter.unusedVariables false
set_option maxRecDepth 100000
noncomputable section
noncomputable def bl__event_Event_only (J : JT) (G : GT) (cf : CF) (j19 : K.Fn 2) (j20 : K.Fn 4) (x21 x22 x23 x24 : AV) (h25 : Hp) : R :=
 B2 (nextA x24 true h25) fun v26 h27 =>
 B1 (ex 0 v26) fun v28 =>
 CD v28 (
 J 4 (fun j29 =>
 B1 (ex 2 v26) fun v30 =>
 J 4 (fun j31 =>
 B1 (ieq v30 (.int .i32 82)) fun v32 =>
 CD v32 (
 B1 (fa 1 x21) fun v33 =>
 B1 (ld v33 h27) fun v34 =>
 B1 (fa 1 x23) fun v35 =>
 B1 (st 1 v35 v34 h27) fun h36 =>
 j31 x21 x22 x23 x24 h36) (
 B1 (ieq v30 (.int .i32 84)) fun v37 =>
 CD v37 (
 B1 (fa 2 x21) fun v38 =>
 B1 (ld v38 h27) fun v39 =>
 B1 (fa 2 x23) fun v40 =>
 B1 (st 1 v40 v39 h27) fun h41 =>
 j31 x21 x22 x23 x24 h41) (
 B1 (ieq v30 (.int .i32 89)) fun v42 =>
 CD v42 (
 B1 (fa 3 x21) fun v43 =>
 B1 (ld v43 h27) fun v44 =>
 B1 (fa 3 x23) fun v45 =>
 B1 (st 1 v45 v44 h27) fun h46 =>
 j31 x21 x22 x23 x24 h46) (
 B1 (ieq v30 (.int .i32 78)) fun v47 =>
 CD v47 (
 B1 (fa 4 x21) fun v48 =>
 B1 (ld v48 h27) fun v49 =>
 B1 (fa 4 x23) fun v50 =>
 B1 (st 1 v50 v49 h27) fun h51 =>
 j31 x21 x22 x23 x24 h51) (
 B1 (ieq v30 (.int .i32 77)) fun v52 =>
 CD v52 (
 B1 (fa 5 x21) fun v53 =>
 B1 (ld v53 h27) fun v54 =>
 B1 (fa 5 x23) fun v55 =>
 B1 (st 1 v55 v54 h27) fun h56 =>
 j31 x21 x22 x23 x24 h56) (
 B1 (ieq v30 (.int .i32 75)) fun v57 =>
 CD v57 (
 B1 (fa 6 x21) fun v58 =>
 B1 (ld v58 h27) fun v59 =>
 B1 (fa 6 x23) fun v60 =>
 B1 (st 1 v60 v59 h27) fun h61 =>
 j31 x21 x22 x23 x24 h61) (
 B1 (ieq v30 (.int .i32 68)) fun v62 =>
 CD v62 (
 B1 (fa 7 x21) fun v63 =>
 B1 (ld v63 h27) fun v64 =>
 B1 (fa 7 x23) fun v65 =>
 B1 (st 1 v65 v64 h27) fun h66 =>
 j31 x21 x22 x23 x24 h66) (
 j31 x21 x22 x23 x24 h27)))))))) (fun x67 x68 x69 x70 h71 =>
 j29 x67 x68 x69 x70 h71)) (fun x72 x73 x74 x75 h76 =>
 j20 x72 x73 x74 x75 h76)) (
 j19 x22 x23 h27)

noncomputable def l__event_Event_only (J : JT) (G : GT) (cf : CF) (j19 : K.Fn 2) : K.Fn 4 := lpF P an J G cf 55 [1, 1, 0, 1, 0, 0] [2, 4, 5, 12] (fun q t H => match Nat.beq q 0 with | true => app 2 j19 (vals [4, 5] t) H | false => (fun _ _ _ => none) q t H)

theorem rl__event_Event_only (J : JT) (G : GT) (cf : CF) (j19 : K.Fn 2) (j20 : K.Fn 4) (x21 x22 x23 x24 : AV) (h25 : Hp) : lpB P an J G cf 55 [1, 1, 0, 1, 0, 0] [2, 4, 5, 12] (fun q t H => match Nat.beq q 0 with | true => app 2 j19 (vals [4, 5] t) H | false => (fun _ _ _ => none) q t H) j20 [x21, x22, x23, x24] h25 = bl__event_Event_only J G cf j19 j20 x21 x22 x23 x24 h25 := by kernel_rfl

theorem ql__event_Event_only (cf : CF) (j19 : K.Fn 2) (x21 x22 x23 x24 : AV) (h25 : Hp) : l__event_Event_only JN GO cf j19 x21 x22 x23 x24 h25 = bl__event_Event_only JN GO cf j19 (l__event_Event_only JN GO cf j19) x21 x22 x23 x24 h25 := Eq.trans (b := app 4 (l__event_Event_only JN GO cf j19) [x21, x22, x23, x24] h25) (by kernel_rfl) ((lpQ cf _ _ _ _ [x21, x22, x23, x24] rfl h25).trans (rl__event_Event_only JN GO cf j19 _ x21 x22 x23 x24 h25))

noncomputable def s__event_Event_only (J : JT) (G : GT) (cf : CF) (a0 a1 : AV) (H : Hp) : R :=
 BN (bx 29 a0 H) fun i0 h1 =>
 BN (newCells h1 [(.int .i64 0), (.int .i64 0), (.int .i64 0), (.int .i64 0), (.int .i64 0), (.str []), (.str []), (.str [])] 29 0) fun i2 h3 =>
 J 4 (fun j4 =>
 B1 (fa 0 (.ptr i0 0)) fun v5 =>
 B1 (ld v5 h3) fun v6 =>
 B1 (fl [(.int .i64 0), (.int .i64 0), (.int .i64 0), (.int .i64 0), (.int .i64 0), (.str []), (.str []), (.str [])] [(0, 1, v6)]) fun l7 =>
 BN (newCells h3 [(.int .i64 0), (.int .i64 0), (.int .i64 0), (.int .i64 0), (.int .i64 0), (.str []), (.str []), (.str [])] 29 0) fun i8 h9 =>
 B1 (st 8 (.ptr i8 0) (.agg l7) h9) fun h10 =>
 j4 a1 (.ptr i0 0) (.ptr i2 0) (.ptr i8 0) h10) (fun x11 x12 x13 x14 h15 =>
 J 2 (fun j16 =>
 B2 (rangeA P 9 x11 h15) fun v17 h18 =>
 J 2 (fun j19 =>
 l__event_Event_only J G cf j19 x12 x13 x14 v17 h18) (fun x77 x78 h79 =>
 j16 x77 x78 h79)) (fun x80 x81 h82 =>
 B1 (lda 8 x81 h82) fun v83 =>
 B1 (st 8 x80 v83 h82) fun h84 =>
 B1 (lda 8 x80 h84) fun v85 =>
 some (v85, h84)))

theorem e__event_Event_only (J : JT) (G : GT) (cf : CF) (a0 a1 : AV) (H : Hp) : callF P J G prim an cf 55 [a0, a1] H = s__event_Event_only J G cf a0 a1 H := by kernel_rfl

theorem c__event_Event_only {a0 a1 : AV} {H : Hp} {r : AV × Hp} (h : s__event_Event_only JN GO cK a0 a1 H = some r) : cK (.func (.func 55) [] []) [a0, a1] H = some r := callF_fix (first := []) (cap := []) ((e__event_Event_only JN GO _ a0 a1 H).trans h)

noncomputable def s_event_Good (J : JT) (G : GT) (cf : CF) (a0 : AV) (H : Hp) : R :=
 BN (bx 29 a0 H) fun i0 h1 =>
 B1 (fa 0 (.ptr i0 0)) fun v2 =>
 B1 (ld v2 h1) fun v3 =>
 B2 (cf (.func (.func 54) [] []) [v3] h1) fun v4 h5 =>
 B1 (sne v4 (.str [])) fun v6 =>
 GD2 v6 true (
 B1 (lda 8 (.ptr i0 0) h5) fun v7 =>
 B2 (cf (.func (.func 55) [] []) [v7, v4] h5) fun v8 h9 =>
 B1 (lda 8 (.ptr i0 0) h9) fun v10 =>
 IFT (gA P .eql 29 false v8 v10) <| B1 (binA P .eql 29 v8 v10 h9) fun v11 =>
 GD2 v11 true (
 B2 (cf (.func (.func 56) [] []) [v4, (.func (.func 57) [] [(.ptr i0 0)])] h9) fun v12 h13 =>
 B1 (unA .not v12) fun v14 =>
 B1 (lda 8 (.ptr i0 0) h5) fun v15 =>
 SM v10 v15 <|
 some (v14, h13)) (
 B1 (lda 8 (.ptr i0 0) h5) fun v16 =>
 SM v10 v16 <|
 some ((.bool false), h9))) (
 some ((.bool false), h5))

theorem e_event_Good (J : JT) (G : GT) (cf : CF) (a0 : AV) (H : Hp) : callF P J G prim an cf 27 [a0] H = s_event_Good J G cf a0 H := by kernel_rfl

theorem c_event_Good {a0 : AV} {H : Hp} {r : AV × Hp} (h : s_event_Good JN GO cK a0 H = some r) : cK (.func (.func 27) [] []) [a0] H = some r := callF_fix (first := []) (cap := []) ((e_event_Good JN GO _ a0 H).trans h)

noncomputable def s_event_Good_1 (J : JT) (G : GT) (cf : CF) (a0 a1 : AV) (H : Hp) : R :=
 B1 (lda 8 a1 H) fun v0 =>
 B2 (cf (.func (.func 58) [] []) [v0, a0] H) fun v1 h2 =>
 B1 (unA .not v1) fun v3 =>
 some (v3, h2)

theorem e_event_Good_1 (J : JT) (G : GT) (cf : CF) (a0 a1 : AV) (H : Hp) : callF P J G prim an cf 57 [a0, a1] H = s_event_Good_1 J G cf a0 a1 H := by kernel_rfl

theorem c_event_Good_1 {a0 a1 : AV} {H : Hp} {r : AV × Hp} (h : s_event_Good_1 JN GO cK a0 a1 H = some r) : cK (.func (.func 57) [] [a1]) [a0] H = some r := callF_fix (first := []) (cap := [a1]) ((e_event_Good_1 JN GO _ a0 a1 H).trans h)

noncomputable def s_keys_New (J : JT) (G : GT) (cf : CF) (a0 : AV) (H : Hp) : R :=
 B2 (builtinA P .max #[3, 3] [a0, (.int .i64 1)] H) fun v0 h1 =>
 B2 (builtinA P .min #[3, 3] [v0, (.int .i64 128)] h1) fun v2 h3 =>
 BN (mk0 h3) fun i4 h5 =>
 B1 (fl [(.int .i64 0), .map0, .slice0] [(0, 1, v2), (1, 1, (.map i4))]) fun l6 =>
 BN (bx 147 (.agg l6) h5) fun i7 h8 =>
 some ((.ptr i7 0), h8)

theorem e_keys_New (J : JT) (G : GT) (cf : CF) (a0 : AV) (H : Hp) : callF P J G prim an cf 37 [a0] H = s_keys_New J G cf a0 H := by kernel_rfl

theorem c_keys_New {a0 : AV} {H : Hp} {r : AV × Hp} (h : s_keys_New JN GO cK a0 H = some r) : cK (.func (.func 37) [] []) [a0] H = some r := callF_fix (first := []) (cap := []) ((e_keys_New JN GO _ a0 H).trans h)

noncomputable def s_flow_New (J : JT) (G : GT) (cf : CF) (H : Hp) : R :=
 BN (mk0 H) fun i0 h1 =>
 B2 (cf (.func (.func 37) [] []) [(.int .i64 128)] h1) fun v2 h3 =>
 B1 (fl [(.int .i64 0), .slice0, .map0, .slice0, .ptr0] [(2, 1, (.map i0)), (4, 1, v2)]) fun l4 =>
 BN (bx 88 (.agg l4) h3) fun i5 h6 =>
 some ((.ptr i5 0), h6)

theorem e_flow_New (J : JT) (G : GT) (cf : CF) (H : Hp) : callF P J G prim an cf 15 [] H = s_flow_New J G cf  H := by kernel_rfl

theorem c_flow_New {H : Hp} {r : AV × Hp} (h : s_flow_New JN GO cK  H = some r) : cK (.func (.func 15) [] []) [] H = some r := callF_fix (first := []) (cap := []) ((e_flow_New JN GO _  H).trans h)

noncomputable def s_flow_Flow_Apply (J : JT) (G : GT) (cf : CF) (a0 a1 : AV) (H : Hp) : R :=
 BN (bx 29 a1 H) fun i0 h1 =>
 B1 (lda 8 (.ptr i0 0) h1) fun v2 =>
 B2 (cf (.func (.func 27) [] []) [v2] h1) fun v3 h4 =>
 B1 (unA .not v3) fun v5 =>
 CD v5 (
 some ((.int .i64 1), h4)) (
 J 2 (fun j6 =>
 B1 (fa 0 (.ptr i0 0)) fun v7 =>
 B1 (ld v7 h4) fun v8 =>
 B1 (ieq v8 (.int .i64 1)) fun v9 =>
 CD v9 (
 B1 (fa 5 (.ptr i0 0)) fun v10 =>
 B1 (ld v10 h4) fun v11 =>
 B1 (fa 7 (.ptr i0 0)) fun v12 =>
 B1 (ld v12 h4) fun v13 =>
 B2 (cf (.func (.func 38) [] []) [a0, v11, v13] h4) fun v14 h15 =>
 some (v14, h15)) (
 B1 (ieq v8 (.int .i64 2)) fun v16 =>
 CD v16 (
 B1 (lda 8 (.ptr i0 0) h4) fun v17 =>
 B2 (cf (.func (.func 39) [] []) [a0, v17] h4) fun v18 h19 =>
 some (v18, h19)) (
 B1 (ieq v8 (.int .i64 6)) fun v20 =>
 CD v20 (
 B1 (fa 4 (.ptr i0 0)) fun v21 =>
 B1 (ld v21 h4) fun v22 =>
 B2 (cf (.func (.func 40) [] []) [a0, v22] h4) fun v23 h24 =>
 some (v23, h24)) (
 B1 (ieq v8 (.int .i64 9)) fun v25 =>
 CD v25 (
 some ((.int .i64 0), h4)) (
 j6 a0 (.ptr i0 0) h4))))) (fun x26 x27 h28 =>
 J 2 (fun j29 =>
 J 3 (fun j30 =>
 B1 (fa 1 x27) fun v31 =>
 B1 (ld v31 h28) fun v32 =>
 B1 (nilA x26) fun v33 =>
 B1 (fa 3 v33) fun v34 =>
 B1 (ld v34 h28) fun v35 =>
 B1 (lenx v35) fun v36 =>
 B1 (igt v32 v36) fun v37 =>
 j30 x26 x27 v37 h28) (fun x38 x39 x40 h41 =>
 CD x40 (
 some ((.int .i64 4), h41)) (
 j29 x38 x39 h41))) (fun x42 x43 h44 =>
 B1 (lda 8 x43 h44) fun v45 =>
 B2 (cf (.func (.func 41) [] []) [x42, v45] h44) fun v46 h47 =>
 some (v46, h47))))

theorem e_flow_Flow_Apply (J : JT) (G : GT) (cf : CF) (a0 a1 : AV) (H : Hp) : callF P J G prim an cf 16 [a0, a1] H = s_flow_Flow_Apply J G cf a0 a1 H := by kernel_rfl

theorem c_flow_Flow_Apply {a0 a1 : AV} {H : Hp} {r : AV × Hp} (h : s_flow_Flow_Apply JN GO cK a0 a1 H = some r) : cK (.func (.func 16) [] []) [a0, a1] H = some r := callF_fix (first := []) (cap := []) ((e_flow_Flow_Apply JN GO _ a0 a1 H).trans h)

noncomputable def bl_flow_Flow_tick (J : JT) (G : GT) (cf : CF) (j31 : K.Fn 0) (j32 : K.Fn 4) (x33 x34 x35 x36 : AV) (h37 : Hp) : R :=
 B1 (ilt x36 x35) fun v38 =>
 CD v38 (
 J 4 (fun j39 =>
 B1 (nilA x33) fun v40 =>
 B1 (fa 3 v40) fun v41 =>
 B1 (ld v41 h37) fun v42 =>
 B1 (nilA x33) fun v43 =>
 B1 (fa 3 v43) fun v44 =>
 B1 (ld v44 h37) fun v45 =>
 B1 (ia 5 v45 x36) fun v46 =>
 B1 (fa 0 v46) fun v47 =>
 B1 (lda 4 v47 h37) fun v48 =>
 B2 (cf (.func (.func 83) [] []) [v48, x34] h37) fun v49 h50 =>
 B1 (ia 5 v42 x36) fun v51 =>
 B1 (fa 0 v51) fun v52 =>
 B1 (st 4 v52 v49 h50) fun h53 =>
 B1 (ld v41 h50) fun v54 =>
 SM v42 v54 <|
 j39 x33 x34 x35 x36 h53) (fun x55 x56 x57 x58 h59 =>
 B1 (iadd x58 (.int .i64 1)) fun v60 =>
 j32 x55 x56 x57 v60 h59)) (
 j31  h37)

noncomputable def l_flow_Flow_tick (J : JT) (G : GT) (cf : CF) (j31 : K.Fn 0) : K.Fn 4 := lpF P an J G cf 40 [1, 1, 1, 0, 1, 0, 0] [0, 1, 20, 21] (fun q t H => match Nat.beq q 0 with | true => app 0 j31 (vals [] t) H | false => (fun _ _ _ => none) q t H)

theorem rl_flow_Flow_tick (J : JT) (G : GT) (cf : CF) (j31 : K.Fn 0) (j32 : K.Fn 4) (x33 x34 x35 x36 : AV) (h37 : Hp) : lpB P an J G cf 40 [1, 1, 1, 0, 1, 0, 0] [0, 1, 20, 21] (fun q t H => match Nat.beq q 0 with | true => app 0 j31 (vals [] t) H | false => (fun _ _ _ => none) q t H) j32 [x33, x34, x35, x36] h37 = bl_flow_Flow_tick J G cf j31 j32 x33 x34 x35 x36 h37 := by kernel_rfl

theorem ql_flow_Flow_tick (cf : CF) (j31 : K.Fn 0) (x33 x34 x35 x36 : AV) (h37 : Hp) : l_flow_Flow_tick JN GO cf j31 x33 x34 x35 x36 h37 = bl_flow_Flow_tick JN GO cf j31 (l_flow_Flow_tick JN GO cf j31) x33 x34 x35 x36 h37 := Eq.trans (b := app 4 (l_flow_Flow_tick JN GO cf j31) [x33, x34, x35, x36] h37) (by kernel_rfl) ((lpQ cf _ _ _ _ [x33, x34, x35, x36] rfl h37).trans (rl_flow_Flow_tick JN GO cf j31 _ x33 x34 x35 x36 h37))

noncomputable def s_flow_Flow_tick (J : JT) (G : GT) (cf : CF) (a0 a1 : AV) (H : Hp) : R :=
 J 2 (fun j0 =>
 J 3 (fun j1 =>
 B1 (nilA a0) fun v2 =>
 B1 (fa 0 v2) fun v3 =>
 B1 (ld v3 H) fun v4 =>
 B1 (ile a1 v4) fun v5 =>
 j1 a0 a1 v5 H) (fun x6 x7 x8 h9 =>
 CD x8 (
 some ((.int .i64 10), h9)) (
 j0 x6 x7 h9))) (fun x10 x11 h12 =>
 J 2 (fun j13 =>
 B1 (nilA x10) fun v14 =>
 B1 (fa 0 v14) fun v15 =>
 B1 (st 1 v15 x11 h12) fun h16 =>
 j13 x10 x11 h16) (fun x17 x18 h19 =>
 J 0 (fun j20 =>
 J 4 (fun j21 =>
 B1 (nilA x17) fun v22 =>
 B1 (fa 3 v22) fun v23 =>
 B1 (ld v23 h19) fun v24 =>
 B1 (lenx v24) fun v25 =>
 j21 x17 x18 v25 (.int .i64 0) h19) (fun x26 x27 x28 x29 h30 =>
 J 0 (fun j31 =>
 l_flow_Flow_tick J G cf j31 x26 x27 x28 x29 h30) (fun  h61 =>
 j20  h61))) (fun  h62 =>
 some ((.int .i64 0), h62))))

theorem e_flow_Flow_tick (J : JT) (G : GT) (cf : CF) (a0 a1 : AV) (H : Hp) : callF P J G prim an cf 40 [a0, a1] H = s_flow_Flow_tick J G cf a0 a1 H := by kernel_rfl

theorem c_flow_Flow_tick {a0 a1 : AV} {H : Hp} {r : AV × Hp} (h : s_flow_Flow_tick JN GO cK a0 a1 H = some r) : cK (.func (.func 40) [] []) [a0, a1] H = some r := callF_fix (first := []) (cap := []) ((e_flow_Flow_tick JN GO _ a0 a1 H).trans h)

noncomputable def s_flow_Flow_Clock (J : JT) (G : GT) (cf : CF) (a0 : AV) (H : Hp) : R :=
 B1 (nilA a0) fun v0 =>
 B1 (fa 0 v0) fun v1 =>
 B1 (ld v1 H) fun v2 =>
 some (v2, H)

theorem e_flow_Flow_Clock (J : JT) (G : GT) (cf : CF) (a0 : AV) (H : Hp) : callF P J G prim an cf 17 [a0] H = s_flow_Flow_Clock J G cf a0 H := by kernel_rfl

theorem c_flow_Flow_Clock {a0 : AV} {H : Hp} {r : AV × Hp} (h : s_flow_Flow_Clock JN GO cK a0 H = some r) : cK (.func (.func 17) [] []) [a0] H = some r := callF_fix (first := []) (cap := []) ((e_flow_Flow_Clock JN GO _ a0 H).trans h)

noncomputable def bl_outriderlaw18_FlowClock (J : JT) (G : GT) (cf : CF) (j8 : K.Fn 0) (j9 : K.Fn 4) (x10 x11 x12 x13 : AV) (h14 : Hp) : R :=
 B1 (lenx x10) fun v15 =>
 B1 (ilt x13 v15) fun v16 =>
 CD v16 (
 J 4 (fun j17 =>
 J 5 (fun j18 =>
 B1 (ia 1 x10 x13) fun v19 =>
 B1 (ld v19 h14) fun v20 =>
 B1 (fl [(.int .i64 0), (.int .i64 0), (.int .i64 0), (.int .i64 0), (.int .i64 0), (.str []), (.str []), (.str [])] [(0, 1, (.int .i64 6)), (4, 1, v20)]) fun l21 =>
 B2 (cf (.func (.func 16) [] []) [x11, (.agg l21)] h14) fun v22 h23 =>
 j18 x10 x11 x12 x13 v22 h23) (fun x24 x25 x26 x27 x28 h29 =>
 J 6 (fun j30 =>
 B1 (ia 1 x24 x27) fun v31 =>
 B1 (ld v31 h29) fun v32 =>
 B1 (igt v32 x26) fun v33 =>
 G v33 true (fun k34 =>
 k34 x24 h29) (fun v35 h36 =>
 G v33 true (fun k37 =>
 k37 x27 h36) (fun v38 h39 =>
 G v33 true (fun k40 =>
 B1 (ia 1 v35 v38) fun v41 =>
 k40 v41 h39) (fun v42 h43 =>
 G v33 true (fun k44 =>
 B1 (ld v42 h43) fun v45 =>
 k44 v45 h43) (fun v46 h47 =>
 G v33 true (fun k48 =>
 B1 (ile v46 (.int .i64 1099511627776)) fun v49 =>
 k48 v49 h47) (fun v50 h51 =>
 B1 (pk v33 v50 (.bool false)) fun v52 =>
 j30 x24 x25 x26 x27 x28 v52 h51) h47) h43) h39) h36) h29) (fun x53 x54 x55 x56 x57 x58 h59 =>
 J 5 (fun j60 =>
 B1 (ieq x57 (.int .i64 0)) fun v61 =>
 B1 (bb .neq v61 x58) fun v62 =>
 CD v62 (
 some ((.bool false), h59)) (
 j60 x53 x54 x55 x56 x58 h59)) (fun x63 x64 x65 x66 x67 h68 =>
 J 4 (fun j69 =>
 CD x67 (
 B1 (ia 1 x63 x66) fun v70 =>
 B1 (ld v70 h68) fun v71 =>
 j69 x63 x64 v71 x66 h68) (
 j69 x63 x64 x65 x66 h68)) (fun x72 x73 x74 x75 h76 =>
 B2 (cf (.func (.func 17) [] []) [x73] h76) fun v77 h78 =>
 B1 (ine v77 x74) fun v79 =>
 CD v79 (
 some ((.bool false), h78)) (
 j17 x72 x73 x74 x75 h78)))))) (fun x80 x81 x82 x83 h84 =>
 B1 (iadd x83 (.int .i64 1)) fun v85 =>
 j9 x80 x81 x82 v85 h84)) (
 j8  h14)

noncomputable def l_outriderlaw18_FlowClock (J : JT) (G : GT) (cf : CF) (j8 : K.Fn 0) : K.Fn 4 := lpF P an J G cf 3 [1, 1, 1, 1, 1, 0, 1, 0, 0] [0, 3, 4, 5] (fun q t H => match Nat.beq q 0 with | true => app 0 j8 (vals [] t) H | false => (fun _ _ _ => none) q t H)

theorem rl_outriderlaw18_FlowClock (J : JT) (G : GT) (cf : CF) (j8 : K.Fn 0) (j9 : K.Fn 4) (x10 x11 x12 x13 : AV) (h14 : Hp) : lpB P an J G cf 3 [1, 1, 1, 1, 1, 0, 1, 0, 0] [0, 3, 4, 5] (fun q t H => match Nat.beq q 0 with | true => app 0 j8 (vals [] t) H | false => (fun _ _ _ => none) q t H) j9 [x10, x11, x12, x13] h14 = bl_outriderlaw18_FlowClock J G cf j8 j9 x10 x11 x12 x13 h14 := by kernel_rfl

theorem ql_outriderlaw18_FlowClock (cf : CF) (j8 : K.Fn 0) (x10 x11 x12 x13 : AV) (h14 : Hp) : l_outriderlaw18_FlowClock JN GO cf j8 x10 x11 x12 x13 h14 = bl_outriderlaw18_FlowClock JN GO cf j8 (l_outriderlaw18_FlowClock JN GO cf j8) x10 x11 x12 x13 h14 := Eq.trans (b := app 4 (l_outriderlaw18_FlowClock JN GO cf j8) [x10, x11, x12, x13] h14) (by kernel_rfl) ((lpQ cf _ _ _ _ [x10, x11, x12, x13] rfl h14).trans (rl_outriderlaw18_FlowClock JN GO cf j8 _ x10 x11 x12 x13 h14))

noncomputable def s_outriderlaw18_FlowClock (J : JT) (G : GT) (cf : CF) (a0 : AV) (H : Hp) : R :=
 B2 (cf (.func (.func 14) [] []) [] H) fun v0 h1 =>
 B1 (unA .not v0) fun v2 =>
 CD v2 (
 some ((.bool false), h1)) (
 B1 (lenx a0) fun v3 =>
 B1 (igt v3 (.int .i64 50)) fun v4 =>
 CD v4 (
 some ((.bool true), h1)) (
 B2 (cf (.func (.func 15) [] []) [] h1) fun v5 h6 =>
 J 0 (fun j7 =>
 J 0 (fun j8 =>
 l_outriderlaw18_FlowClock J G cf j8 a0 v5 (.int .i64 0) (.int .i64 0) h6) (fun  h86 =>
 j7  h86)) (fun  h87 =>
 some ((.bool true), h87))))

theorem e_outriderlaw18_FlowClock (J : JT) (G : GT) (cf : CF) (a0 : AV) (H : Hp) : callF P J G prim an cf 3 [a0] H = s_outriderlaw18_FlowClock J G cf a0 H := by kernel_rfl

theorem c_outriderlaw18_FlowClock {a0 : AV} {H : Hp} {r : AV × Hp} (h : s_outriderlaw18_FlowClock JN GO cK a0 H = some r) : cK (.func (.func 3) [] []) [a0] H = some r := callF_fix (first := []) (cap := []) ((e_outriderlaw18_FlowClock JN GO _ a0 H).trans h)

end
end Go.Proofs.YtkhhnpkmblldbaaGreatDoor.DfK
