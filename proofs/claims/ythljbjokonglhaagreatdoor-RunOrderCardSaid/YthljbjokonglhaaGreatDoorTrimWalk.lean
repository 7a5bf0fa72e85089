/- strings.Trim at a cutset of ASCII bytes, as a contract of the evaluator (out of the library's own contract). No conditions. -/
import Derived.Test.YthljbjokonglhaaGreatDoorAm9
import Derived.Test.YthljbjokonglhaaGreatDoorShelf
import Derived.ProofKit
import Derived.Shelf.SortM.Plain
import Derived.Shelf.SortM.SortNone
import Derived.Shelf.Strconv.Itoa0
import Derived.Shelf.Strconv.Itoa2
import Derived.Shelf.Strconv.AtoiAll
import Derived.Test.YthljbjokonglhaaGreatDoorAm14
import Derived.Test.YthljbjokonglhaaGreatDoorProg
import Derived.Test.YthljbjokonglhaaGreatDoorRows
import Derived.KernelRfl
namespace Go.Proofs.YthljbjokonglhaaGreatDoor.TrimWalk
open Go Go.Proofs Go.RowKit Go.Shelf
set_option maxRecDepth 100000
theorem trimOne : Am.PrimOne Tryz.prog 61 Am.trimP := by
  refine Am.trim_ok (fun as' w => Am.run_enter (by unfold Am.NamesOK; kernel_rfl) Tryz.func61 rfl as' w) ?_
  intro s c w hs hc ha
  exact Any.strings_Trim_laid Tryz.lays160 (by kernel_rfl) s c w hs hc ha
end Go.Proofs.YthljbjokonglhaaGreatDoor.TrimWalk
set_option linter.unusedVariables false
set_option linter.unusedSimpArgs false
namespace Go.Proofs.YthljbjokonglhaaGreatDoor.LibS
open Go Am Go.Sort Go.RowKit Go.Proofs
def zOf : AV → Option Int
  | .int .i64 z => some z
  | _ => none
def zsOf : List AV → Option (List Int)
  | [] => some []
  | v :: r => match zOf v, zsOf r with
    | some z, some l => some (z :: l)
    | _, _ => none
def nums (l : List Int) : List AV := l.map (AV.int .i64)
def sortZ (l : List Int) : List Int := l.mergeSort fun x y => decide (x ≤ y)
theorem zOf_some {v : AV} {z : Int} (h : zOf v = some z) : v = .int .i64 z := by
  unfold zOf at h
  split at h
  · cases h; rfl
  · cases h
theorem zsOf_some : ∀ {l : List AV} {zs : List Int}, zsOf l = some zs → l = nums zs
  | [], zs, h => by cases h; rfl
  | v :: r, zs, h => by
    unfold zsOf at h
    split at h
    · rename_i z l h1 h2
      cases h
      rw [zOf_some h1, zsOf_some h2]
      rfl
    · cases h
theorem zsOf_nums : ∀ (zs : List Int), zsOf (nums zs) = some zs
  | [] => rfl
  | z :: zs => by
    show (match zOf (AV.int .i64 z), zsOf (nums zs) with | some z, some l => some (z :: l) | _, _ => none) = _
    rw [zsOf_nums zs]
    rfl
theorem sortZ_len (l : List Int) : (sortZ l).length = l.length := (List.mergeSort_perm l _).length_eq
noncomputable section
def sort3 (H : Hp) (i off : Nat) (c : Tr AV) (lo hi el fl : Nat) (r : Option (List Int)) : Option (AV × Hp) := match r with
  | some zs => some (.tuple [], { H with h := H.h.upd i (.cells (c.puts off (nums (sortZ zs))) lo hi el fl) })
  | none => none
open Classical in
def sort2 (H : Hp) (i off n : Nat) (o : AO) : Option (AV × Hp) := match o with
  | .cells c lo hi el fl => if lo ≤ off ∧ off + n ≤ hi ∧ fl ≤ 1 then sort3 H i off c lo hi el fl ((cellsAt H i off n).bind zsOf) else none
  | _ => none
open Classical in
def sortP : Prim := fun args H => match args with
  | [.slice0] => some (.tuple [], H)
  | [.slice i off n cap ex es] => if n = 0 then some (.tuple [], H) else if es = 1 ∧ n < 4611686018427387904 then (H.h.get i).bind (sort2 H i off n) else none
  | _ => none
end
theorem tup0 (e : Em) : VR e (.tuple []) (.tuple #[]) := .tuple [] #[] rfl (fun i v v' h => by simp at h)
theorem sort_ok {f : Nat} (hen : ∀ as' w, (callFunc f as').run Tryz.prog w = .ok (.enter f as') w)
    (h0 : ∀ (p : Option Addr) (cap : Nat) (w : World), Calls Tryz.prog f #[.slice p 0 cap] w fun e w' => e = .returned (.tuple #[]) ∧ w' = w)
    (h1 : ∀ (blk off cap : Nat) (zs : List Int) (w : World), Holds (Value.int .i64) w blk off zs.toArray → blk < w.heap.size → zs.length < 4611686018427387904 →
      Calls Tryz.prog f #[.slice (some ⟨blk, off, none⟩) zs.length cap] w fun e w' => e = .returned (.tuple #[]) ∧ ∃ n os, w' = grow (putRow (Value.int .i64) (Sort.ahead w n) blk off (zs.mergeSort fun x y => decide (x ≤ y)).toArray) os) : PrimOne Tryz.prog f sortP := by
  intro args H v H' hp Fr W e w as' hR ha
  unfold sortP at hp
  split at hp
  · obtain ⟨a', r1, e1, hv1, hr1⟩ := ha.cons_inv
    have e3 := hr1.nil_inv
    subst e3
    cases hp
    cases hv1
    obtain rfl : as' = #[.slice none 0 0] := Array.toList_inj.1 e1
    refine ⟨hen _ _, (h0 none 0 w).mono ?_⟩
    rintro en w' ⟨rfl, rfl⟩
    exact ⟨e, _, rfl, e.le_refl, hR, tup0 e⟩
  · rename_i i off n cap ex es
    obtain ⟨a', r1, e1, hv1, hr1⟩ := ha.cons_inv
    have e3 := hr1.nil_inv
    subst e3
    split at hp
    · rename_i hn0
      subst hn0
      cases hp
      rcases hv1.slice_inv with ⟨o, c, k1, k2, k3, k4, k5, k6, rfl⟩ | ⟨_, _, a, rfl⟩
      · obtain rfl : as' = #[.slice (some ⟨e.b i, o, none⟩) 0 c] := Array.toList_inj.1 e1
        refine ⟨hen _ _, (h0 _ c w).mono ?_⟩
        rintro en w' ⟨rfl, rfl⟩
        exact ⟨e, _, rfl, e.le_refl, hR, tup0 e⟩
      · obtain rfl : as' = #[.slice (some a) 0 0] := Array.toList_inj.1 e1
        refine ⟨hen _ _, (h0 _ 0 w).mono ?_⟩
        rintro en w' ⟨rfl, rfl⟩
        exact ⟨e, _, rfl, e.le_refl, hR, tup0 e⟩
    · rename_i hn0
      split at hp
      · rename_i hes
        obtain ⟨rfl, hbig⟩ := hes
        rcases hv1.slice_inv with ⟨o, cc, k1, k2, k3, k4, k5, k6, rfl⟩ | ⟨q, _, a, rfl⟩
        · obtain ⟨ob0, hg, hp⟩ := Option.bind_eq_some_iff.1 hp
          unfold sort2 at hp
          split at hp
          · rename_i c lo hi el fl
            split at hp
            · rename_i hcond
              obtain ⟨g1, g2, g3⟩ := hcond
              cases hr : (cellsAt H i off n).bind zsOf with
              | none => rw [hr] at hp; cases hp
              | some zs =>
                rw [hr] at hp
                cases hp
                obtain ⟨l, hl, hz⟩ := Option.bind_eq_some_iff.1 hr
                have hlz := zsOf_some hz
                obtain ⟨cs, c1, c2, c3⟩ := hR.loads hl k2
                have hzn : zs.length = n := by rw [← c2, c1.1, hlz]; simp [nums]
                have hcs : ∀ j z, zs[j]? = some z → w.cell? ⟨e.b i, o + j, none⟩ = some (.int .i64 z) := by
                  intro j z hj
                  obtain ⟨v', hv', hr'⟩ := c1.get (i := j) (v := .int .i64 z) (by rw [hlz]; simp [nums, hj])
                  have := hr'.int_inv
                  subst this
                  exact c3 j _ hv'
                obtain ⟨hN, ob, hob, hor, hF⟩ := hR.obj i _ hg
                cases hor with
                | cells _ _ _ _ _ C fz hn hcc hf0 hf1 hd =>
                  have hsz : o + n ≤ C.size := by rw [hn]; omega
                  have hH : Holds (Value.int .i64) w (e.b i) o zs.toArray := by
                    intro j hj
                    have hj' : j < zs.length := by simpa using hj
                    refine ⟨?_, ?_⟩
                    · rw [hcs j zs[j] (List.getElem?_eq_getElem hj')]
                      simp [hj']
                    · have := hf1 g3 (o + j) (by omega)
                      simp only [World.frozen?, hob]
                      exact this
                  obtain rfl : as' = #[.slice (some ⟨e.b i, o, none⟩) n cc] := Array.toList_inj.1 e1
                  have hcall := h1 (e.b i) o cc zs w hH (Array.getElem?_eq_some_iff.1 hob).1 (by omega)
                  rw [hzn] at hcall
                  refine ⟨hen _ _, hcall.mono ?_⟩
                  rintro en w' ⟨rfl, m, os, rfl⟩
                  refine ⟨e, _, rfl, e.le_refl, ?_, tup0 e⟩
                  have hR1 := hR.drawn (w.drawn + m)
                  have hst : (zs.mergeSort fun x y => decide (x ≤ y)) = sortZ zs := rfl
                  have hsl := sortZ_len zs
                  rw [hst]
                  generalize sortZ zs = ss at *
                  have hR2 : RH Tryz.prog.globals.size Fr W e { H with h := H.h.upd i (.cells (c.puts off (nums ss)) lo hi el fl) } (putRow (Value.int .i64) (Sort.ahead w m) (e.b i) o ss.toArray) := by
                    refine hR1.put hg (by simp [wr, g3]) (ob' := .cells (putCells (Value.int .i64) o ss.toArray C) el fz) ?_ ?_ ?_ ?_ rfl rfl rfl
                    · simp [putRow, mapBlock, Sort.ahead]
                    · simp only [putRow, mapBlock, Sort.ahead]
                      rw [get_modify_same _ _ _ hob]
                      rfl
                    · intro k hk
                      simp only [putRow, mapBlock, Sort.ahead]
                      rw [get_modify_ne _ _ _ _ (fun q => hk q.symm)]
                    · have hps : (putCells (Value.int .i64) o ss.toArray C).size = C.size := by simp [putCells]
                      refine .cells _ lo hi el fl _ fz (by rw [hps]; exact hn) ?_ hf0 (by rw [hps]; exact hf1) hd
                      intro k u a b hk
                      rw [Tr.get_putsA] at hk
                      have hnl : (nums ss).length = n := by simp [nums]; omega
                      rw [hnl] at hk
                      by_cases hin : off ≤ k ∧ k < off + n
                      · rw [if_pos hin] at hk
                        have hjl : k - off < ss.length := by omega
                        have hu : u = .int .i64 ss[k - off] := by
                          have : (nums ss)[k - off]? = some (.int .i64 ss[k - off]) := by simp [nums, hjl]
                          rw [this] at hk
                          exact (Option.some.inj hk).symm
                        subst hu
                        refine ⟨o + (k - off), by omega, .int .i64 ss[k - off], ?_, .int _ _⟩
                        have hC : o + (k - off) < C.size := by omega
                        simp only [putCells]
                        rw [Array.getElem?_mapIdx, Array.getElem?_eq_getElem hC]
                        simp only [Option.map_some, List.size_toArray]
                        rw [if_pos (by omega), Nat.add_sub_cancel_left]
                        simp [hjl]
                      · rw [if_neg hin] at hk
                        obtain ⟨k2', hk2', u', hu', hr'⟩ := hcc k u a b hk
                        refine ⟨k2', hk2', u', ?_, hr'⟩
                        simp only [putCells]
                        rw [Array.getElem?_mapIdx, hu']
                        simp only [Option.map_some, List.size_toArray]
                        rw [if_neg (by omega)]
                  exact hR2.below ⟨rfl, rfl, rfl, by simp [grow], fun k hk => by
                    simp only [grow]
                    rw [Array.getElem?_append_left hk]⟩
            · cases hp
          · cases hp
        · omega
      · cases hp
  · cases hp
theorem sortOne : PrimOne Tryz.prog 98 sortP :=
  sort_ok (fun as' w => run_enter (by unfold NamesOK; kernel_rfl) Tryz.func98 rfl as' w)
    (fun p cap w => AnyM.slices_Sort_int_none Tryz.sortN p cap w) (fun blk off cap zs w hH hb hl => AnyM.slices_Sort_int Tryz.sortN blk off cap zs w hH hb hl)
end Go.Proofs.YthljbjokonglhaaGreatDoor.LibS
set_option linter.unusedVariables false
set_option linter.unusedSimpArgs false
namespace Go.Proofs.YthljbjokonglhaaGreatDoor.LibP
open Go Am Go.Sort Go.RowKit Go.Proofs LibS
theorem names0 : NamesOK Tryz.prog := by unfold NamesOK; kernel_rfl
/-! math/bits.Len64 -/
noncomputable section
open Classical in
def len64P : Prim := fun args H => match args with
  | [.int .u64 x] => if 0 ≤ x ∧ x ≤ 18446744073709551615 then some (.int .i64 (Lib.bitLen x.toNat), H) else none
  | _ => none
/-- the digits of u, so many -/
def digs (u n : Nat) : List AV := (List.range n).map fun t => AV.int .u8 ((Lib.dg u (n - 1 - t)).toNat)
open Classical in
def fb2 (H : Hp) (i off n u : Nat) (o : AO) : Option (AV × Hp) := match o with
  | .cells c lo hi el fl => if lo ≤ off ∧ off + n ≤ hi ∧ fl ≤ 1 ∧ (∃ l, cellsAt H i off n = some l ∧ ∀ v ∈ l, ∃ b : Nat, b < 256 ∧ v = .int .u8 b) then some (.tuple [], { H with h := H.h.upd i (.cells (c.puts off (digs u n)) lo hi el fl) }) else none
  | _ => none
open Classical in
def fb10P : Prim := fun args H => match args with
  | [.slice i off n cap ex es, .int .u64 u] => if es = 1 ∧ 0 < n ∧ n < 4611686018427387904 ∧ 0 ≤ u ∧ u < 18446744073709551616 ∧ u.toNat < 10 ^ n then (H.h.get i).bind (fb2 H i off n u.toNat) else none
  | _ => none
/-- what is read of the two errors -/
structure ErrA (H : Hp) : Prop where
  syn : ∃ t p, cellAt H 4 0 = some (.iface t p)
  rng : ∃ t p, cellAt H 5 0 = some (.iface t p)
def u8of (s : List Nat) : List UInt8 := s.map UInt8.ofNat
def atoiR (s : List Nat) : AV := match Lib.atoiAll (u8of s) with
  | .ok v => .tuple [.int .i64 v, .nilIface]
  | .range => .tuple [.int .i64 (Lib.atoiSat (u8of s)), .iface 186 .junk]
  | _ => .tuple [.int .i64 0, .iface 186 .junk]
open Classical in
def atoiP : Prim := fun args H => match args with
  | [.str s] => if ErrA H ∧ s.length ≤ 281474976710656 then some (atoiR s, H) else none
  | _ => none
end
theorem len64One : PrimOne Tryz.prog 135 len64P := by
  intro args H v H' hp F W e w as' hR ha
  unfold len64P at hp
  split at hp
  · rename_i x
    split at hp
    · rename_i hx
      cases hp
      obtain ⟨a', r1, e1, hv1, hr1⟩ := ha.cons_inv
      have e3 := hr1.nil_inv
      subst e3
      have := hv1.int_inv
      subst this
      obtain rfl : as' = #[.int .u64 x] := Array.toList_inj.1 e1
      refine ⟨run_enter names0 Tryz.func135 rfl _ w, (Any.bits_Len64 Tryz.lays129 x w hx.1 hx.2).mono ?_⟩
      rintro en w' ⟨rfl, rfl⟩
      exact ⟨e, _, rfl, e.le_refl, hR, .int _ _⟩
    · cases hp
  · cases hp
theorem VR.two {e : Em} {a b : AV} {a' b' : Value} (h : VR e a a') (k : VR e b b') : VR e (.tuple [a, b]) (.tuple #[a', b']) := by
  refine .tuple _ _ rfl ?_
  intro i v v' h1 h2
  match i, h1, h2 with
  | 0, h1, h2 => cases h1; cases h2; exact h
  | 1, h1, h2 => cases h1; cases h2; exact k
/-! internal/strconv.formatBase10 -/
theorem fb10One : PrimOne Tryz.prog 123 fb10P := by
  intro args H v H' hp Fr W e w as' hR ha
  unfold fb10P at hp
  split at hp
  · rename_i i off n cap ex es u
    obtain ⟨a', r1, e1, hv1, hr1⟩ := ha.cons_inv
    obtain ⟨b', r2, e2, hv2, hr2⟩ := hr1.cons_inv
    have e3 := hr2.nil_inv
    subst e3
    have hu' := hv2.int_inv
    subst hu'
    split at hp
    · rename_i hc
      obtain ⟨rfl, hn0, hbig, hu0, hu64, hupow⟩ := hc
      obtain ⟨un, rfl⟩ : ∃ un : Nat, u = un := ⟨u.toNat, by omega⟩
      rw [Int.toNat_natCast] at hp hupow
      rcases hv1.slice_inv with ⟨o, cc, k1, k2, k3, k4, k5, k6, rfl⟩ | ⟨q, _, a, rfl⟩
      · obtain ⟨ob0, hg, hp⟩ := Option.bind_eq_some_iff.1 hp
        unfold fb2 at hp
        split at hp
        · rename_i c lo hi el fl
          split at hp
          · rename_i hcond
            obtain ⟨g1, g2, g3, l, hl, hby⟩ := hcond
            cases hp
            obtain ⟨cs, c1, c2, c3⟩ := hR.loads hl k2
            have hln : l.length = n := by rw [← c1.1, c2]
            obtain ⟨d, hd1, hd2⟩ : ∃ d : List UInt8, d.length = n ∧ ∀ (j : Nat) (z : UInt8), d[j]? = some z → l[j]? = some (AV.int .u8 (z.toNat : Int)) := by
              refine ⟨l.map fun v => match v with | AV.int _ b => UInt8.ofNat b.toNat | _ => 0, by simp [hln], fun j z hj => ?_⟩
              rw [List.getElem?_map, Option.map_eq_some_iff] at hj
              obtain ⟨v, hv, rfl⟩ := hj
              obtain ⟨b, hb, rfl⟩ := hby v (List.mem_of_getElem? hv)
              rw [hv]
              simp only [Int.toNat_natCast, UInt8.toNat_ofNat']
              rw [Nat.mod_eq_of_lt hb]
            have hcs : ∀ (j : Nat) (z : UInt8), d[j]? = some z → w.cell? ⟨e.b i, o + j, none⟩ = some (.int .u8 (z.toNat : Int)) := by
              intro j z hj
              obtain ⟨v', hv', hr'⟩ := c1.get (hd2 j z hj)
              have := hr'.int_inv
              subst this
              exact c3 j _ hv'
            obtain ⟨hN, ob, hob, hor, hF⟩ := hR.obj i _ hg
            cases hor with
            | cells _ _ _ _ _ C fz hn hcc hf0 hf1 hd =>
              have hsz : o + n ≤ C.size := by rw [hn]; omega
              have hH : Holds (fun (b : UInt8) => Value.int .u8 (b.toNat : Int)) w (e.b i) o d.toArray := by
                intro j hj
                have hj' : j < d.length := by simpa using hj
                refine ⟨?_, ?_⟩
                · rw [hcs j d[j] (List.getElem?_eq_getElem hj')]
                  simp [hj']
                · have := hf1 g3 (o + j) (by omega)
                  simp only [World.frozen?, hob]
                  exact this
              obtain rfl : as' = #[.slice (some ⟨e.b i, o, none⟩) n cc, .int .u64 un] := Array.toList_inj.1 (by rw [e1, e2])
              have hcall := Any.internal_strconv_formatBase10 Tryz.lays285 (e.b i) o cc un d.toArray w hH (by simpa [hd1] using hupow) (by omega) (by simpa [hd1] using hbig)
              have hdz : d.toArray.size = n := by simp [hd1]
              rw [hdz] at hcall
              refine ⟨run_enter names0 Tryz.func123 rfl _ w, hcall.mono ?_⟩
              rintro en w' ⟨rfl, m, v', dk, rfl, hinv⟩
              refine ⟨e, _, rfl, e.le_refl, ?_, tup0 e⟩
              have hdk : ∀ t, t < n → dk[t]! = Lib.dg un (n - 1 - t) := fun t ht => hinv.done t (Nat.zero_le _) ht
              have hds := hinv.size
              have hnl : (digs un n).length = n := by simp [digs]
              have hR2 : RH Tryz.prog.globals.size Fr W e { H with h := H.h.upd i (.cells (c.puts off (digs un n)) lo hi el fl) } (putRow (fun (b : UInt8) => Value.int .u8 (b.toNat : Int)) w (e.b i) o dk) := by
                refine hR.put hg (by simp [wr, g3]) (ob' := .cells (putCells (fun (b : UInt8) => Value.int .u8 (b.toNat : Int)) o dk C) el fz) ?_ ?_ ?_ ?_ rfl rfl rfl
                · simp [putRow, mapBlock]
                · simp only [putRow, mapBlock]
                  rw [get_modify_same _ _ _ hob]
                  rfl
                · intro k hk
                  simp only [putRow, mapBlock]
                  rw [get_modify_ne _ _ _ _ (fun q => hk q.symm)]
                · have hps : (putCells (fun (b : UInt8) => Value.int .u8 (b.toNat : Int)) o dk C).size = C.size := by simp [putCells]
                  refine .cells _ lo hi el fl _ fz (by rw [hps]; exact hn) ?_ hf0 (by rw [hps]; exact hf1) hd
                  intro k u' a b hk
                  rw [Tr.get_putsA, hnl] at hk
                  by_cases hin : off ≤ k ∧ k < off + n
                  · rw [if_pos hin] at hk
                    have hj : k - off < n := by omega
                    have hu : u' = .int .u8 ((Lib.dg un (n - 1 - (k - off))).toNat) := by
                      have : (digs un n)[k - off]? = some (.int .u8 ((Lib.dg un (n - 1 - (k - off))).toNat)) := by simp [digs, hj]
                      rw [this] at hk
                      exact (Option.some.inj hk).symm
                    subst hu
                    refine ⟨o + (k - off), by omega, .int .u8 ((Lib.dg un (n - 1 - (k - off))).toNat), ?_, .int _ _⟩
                    have hC : o + (k - off) < C.size := by omega
                    simp only [putCells]
                    rw [Array.getElem?_mapIdx, Array.getElem?_eq_getElem hC]
                    simp only [Option.map_some]
                    rw [if_pos (by omega), Nat.add_sub_cancel_left, hdk _ hj]
                  · rw [if_neg hin] at hk
                    obtain ⟨k2', hk2', u2, hu2, hr'⟩ := hcc k u' a b hk
                    refine ⟨k2', hk2', u2, ?_, hr'⟩
                    simp only [putCells]
                    rw [Array.getElem?_mapIdx, hu2]
                    simp only [Option.map_some]
                    rw [if_neg (by omega)]
              exact hR2.drawn _
          · cases hp
        · cases hp
      · omega
    · cases hp
  · cases hp
/-! strconv.Atoi -/
theorem ErrA.cells {Fr : Nat → Prop} {W : World} {e : Em} {H : Hp} {w : World} (h : ErrA H) (hR : RH Tryz.prog.globals.size Fr W e H w) :
    (∃ t p, w.cell? ⟨4, 0, none⟩ = some (.iface t p)) ∧ ∃ t p, w.cell? ⟨5, 0, none⟩ = some (.iface t p) := by
  have hs2 : 4 < Tryz.prog.globals.size := by rw [← Nat.blt_eq]; kernel_rfl
  have hs3 : 5 < Tryz.prog.globals.size := by rw [← Nat.blt_eq]; kernel_rfl
  have key : ∀ g k v, g < Tryz.prog.globals.size → cellAt H g (k : Nat) = some v → ∃ v', w.cell? ⟨g, k, none⟩ = some v' ∧ VR e v v' := by
    intro g k v hg hc
    obtain ⟨_, o, ho, v', h1, h2⟩ := hR.load hc
    obtain ⟨_, hb, hd⟩ := hR.glob g hg
    rw [hb] at h1
    rw [hd] at ho
    obtain rfl : o = k := by omega
    exact ⟨v', h1, h2⟩
  refine ⟨?_, ?_⟩
  · obtain ⟨t, p, hc⟩ := h.syn
    obtain ⟨v', h1, h2⟩ := key _ 0 _ hs2 hc
    cases h2
    exact ⟨_, _, h1⟩
  · obtain ⟨t, p, hc⟩ := h.rng
    obtain ⟨v', h1, h2⟩ := key _ 0 _ hs3 hc
    cases h2
    exact ⟨_, _, h1⟩
theorem u8_bytes (s : ByteArray) : u8of (Am.bytes s) = s.data.toList := by
  unfold u8of Am.bytes
  rw [List.map_map, List.map_congr_left (g := id) (fun x _ => by simp)]
  simp
theorem atoiOne : PrimOne Tryz.prog 106 atoiP := by
  intro args H v H' hp F W e w as' hR ha
  unfold atoiP at hp
  split at hp
  · rename_i s
    split at hp
    · rename_i hx
      cases hp
      obtain ⟨hE, hlen⟩ := hx
      obtain ⟨a', r1, e1, hv1, hr1⟩ := ha.cons_inv
      have e3 := hr1.nil_inv
      subst e3
      obtain ⟨s', rfl, rfl⟩ := hv1.str_inv
      obtain rfl : as' = #[.string s'] := Array.toList_inj.1 e1
      refine ⟨run_enter names0 Tryz.func106 rfl _ w, ?_⟩
      have hl : s'.size ≤ 281474976710656 := by
        have : s'.size = (Am.bytes s').length := by simp [Am.bytes]
        omega
      obtain ⟨⟨t1, p1, q1⟩, ⟨t2, p2, q2⟩⟩ := hE.cells hR
      unfold atoiR
      rw [u8_bytes]
      cases hr : Lib.atoiAll s'.data.toList with
      | ok v =>
        refine (Any.strconv_Atoi_ok Tryz.laysC172 s' (by omega) v hr w).mono ?_
        rintro en w' ⟨rfl, hw⟩
        refine ⟨e, _, rfl, e.le_refl, ?_, VR.two (.int _ _) .nilIface⟩
        rcases hw with rfl | ⟨t, rfl⟩
        · exact hR
        · exact hR.below (Lib.bytesWorld_below _ _ _)
      | range =>
        refine (Any.strconv_Atoi_range Tryz.laysC172 s' hl hr _ w q2 (.inr ⟨_, _, rfl⟩)).mono ?_
        rintro en w' ⟨N, rfl, _, _, hb⟩
        exact ⟨e, _, rfl, e.le_refl, hR.below hb, VR.two (.int _ _) (.iface _ _ _ (.junk _))⟩
      | _ =>
        refine (Any.strconv_Atoi_syntax Tryz.laysC172 s' hl hr _ w q1 (.inr ⟨_, _, rfl⟩)).mono ?_
        rintro en w' ⟨N, rfl, _, _, hb⟩
        exact ⟨e, _, rfl, e.le_refl, hR.below hb, VR.two (.int _ _) (.iface _ _ _ (.junk _))⟩
    · cases hp
  · cases hp
end Go.Proofs.YthljbjokonglhaaGreatDoor.LibP
namespace Go.Proofs.YthljbjokonglhaaGreatDoor.DfEnv
open Go Go.RowKit Am
set_option linter.unusedVariables false
set_option maxRecDepth 100000

def ext (g : Nat) : Option Ext := bif Nat.beq g 108 then some .same else bif Nat.beq g 109 then some (.noZero 110) else bif Nat.beq g 138 then some .idxByte else bif Nat.beq g 104 then some .count else none
theorem extOK : ExtOK Tryz.prog ext := by
  intro fid k h as' w
  unfold ext at h
  cases h1 : Nat.beq fid 108 with
  | true =>
    rw [h1] at h
    cases h
    obtain rfl := Nat.eq_of_beq_eq_true h1
    exact ext_of (e := Extern.AbiNoEscape.same) Tryz.func108 (by kernel_rfl) (by kernel_rfl) (by kernel_rfl) (by kernel_rfl) rfl as' w
  | false =>
    rw [h1] at h
    clear h1
    cases h1 : Nat.beq fid 109 with
    | true =>
      rw [h1] at h
      cases h
      obtain rfl := Nat.eq_of_beq_eq_true h1
      exact ext_of (e := Extern.BytealgMakeNoZero.makeNoZero #[] #[110]) Tryz.func109 (by kernel_rfl) (by kernel_rfl) (by kernel_rfl) (by kernel_rfl) rfl as' w
    | false =>
      rw [h1] at h
      clear h1
      cases h1 : Nat.beq fid 138 with
      | true =>
        rw [h1] at h
        cases h
        obtain rfl := Nat.eq_of_beq_eq_true h1
        exact ext_of (e := Extern.BytealgIndexByte.indexByte) Tryz.func138 (by kernel_rfl) (by kernel_rfl) (by kernel_rfl) (by kernel_rfl) rfl as' w
      | false =>
        rw [h1] at h
        clear h1
        cases h1 : Nat.beq fid 104 with
        | true =>
          rw [h1] at h
          cases h
          obtain rfl := Nat.eq_of_beq_eq_true h1
          exact ext_of (e := Extern.BytealgCount.count) Tryz.func104 (by kernel_rfl) (by kernel_rfl) (by kernel_rfl) (by kernel_rfl) rfl as' w
        | false =>
          rw [h1] at h
          clear h1
          cases h
noncomputable def prim0 (g : Nat) : Option Prim := bif Nat.beq g 61 then some Am.trimP else none
theorem prim0OK : PrimOK Tryz.prog prim0 := by
  intro fid p h args H v H' hp
  unfold prim0 at h
  cases h1 : Nat.beq fid 61 with
  | true =>
    rw [h1] at h
    cases h
    obtain rfl := Nat.eq_of_beq_eq_true h1
    exact TrimWalk.trimOne args H v H' hp
  | false =>
    rw [h1] at h
    clear h1
    cases h
theorem namesOK : NamesOK Tryz.prog := by unfold NamesOK; kernel_rfl
theorem mixed : Tryz.prog.follows .mixedOrders = true := by kernel_rfl

def pow10 : List Int := [1, 10, 100, 1000, 10000, 100000, 1000000, 10000000, 100000000, 1000000000, 10000000000, 100000000000, 1000000000000, 10000000000000, 100000000000000, 1000000000000000, 10000000000000000, 100000000000000000, 1000000000000000000, 10000000000000000000]
def tab32 : List Int := [0, 1, 28, 2, 29, 14, 24, 3, 30, 22, 20, 15, 25, 17, 4, 8, 31, 27, 13, 23, 21, 19, 16, 7, 26, 12, 18, 6, 11, 5, 10, 9]
def tab64 : List Int := [0, 1, 56, 2, 57, 49, 28, 3, 61, 58, 42, 50, 38, 29, 17, 4, 62, 47, 59, 36, 45, 43, 51, 22, 53, 39, 33, 30, 24, 18, 12, 5, 63, 55, 48, 27, 60, 41, 37, 16, 46, 35, 44, 21, 52, 32, 23, 11, 54, 26, 40, 15, 34, 20, 31, 10, 25, 14, 19, 9, 13, 8, 7, 6]
def begin0 : List (Nat × List AV) := [(3, pow10.map (AV.int .u64)), (4, [.iface 208 (.ptr 10 0)]), (5, [.iface 208 (.ptr 9 0)]), (6, tab32.map (AV.int .u8)), (7, tab64.map (AV.int .u8))]

abbrev laid : List (String × DataW Unit) := [("math/bits.deBruijn32tab", Rows.laid_math_bits_deBruijn32tab), ("math/bits.deBruijn64tab", Rows.laid_math_bits_deBruijn64tab), ("internal/strconv.uint64pow10", Rows.laid_internal_strconv_uint64pow10), ("unicode/utf8.acceptRanges", Rows.laid_unicode_utf8_acceptRanges), ("strconv.ErrRange", Rows.laid_strconv_ErrRange), ("strconv.ErrSyntax", Rows.laid_strconv_ErrSyntax), ("unicode/utf8.first", Rows.laid_unicode_utf8_first)]

theorem star : "*" ++ "errors.errorString" = "*errors.errorString" := by decide
theorem rowErr (u : TypeId) (h : Tryz.prog.typeName? 3 u = some "*errors.errorString") : u = 208 :=
  typeName_ptr_named (nm := "errors.errorString") (by rw [star]; kernel_rfl) (by kernel_rfl) (by decide) u (by rw [star]; exact h)

theorem begins {W : World} (h : laidMet Tryz.prog laid W) (hsz : 8 ≤ W.heap.size) (bx : Nat → Nat) (dx : Nat → Int) (nx : Nat → Nat) {N : Nat} (hN : 11 ≤ N) {PO : List (Nat × AO)}
    (hP : ∀ i o, (i, o) ∈ PO → 11 ≤ i ∧ i < N ∧ wr o = false ∧ ∃ ob, W.heap[bx i]? = some ob ∧ ∀ e : Em, e.N = N → (∀ j, 11 ≤ j → e.b j = bx j ∧ e.d j = dx j ∧ e.n j = nx j) → OR e i o ob) :
    ∃ e, RH Tryz.prog.globals.size (fun k => k < W.heap.size) W e ⟨layP PO (layO (elAt W) begin0), N⟩ W ∧ e.N = N ∧ ∀ j, 11 ≤ j → e.b j = bx j ∧ e.d j = dx j ∧ e.n j = nx j := by
  have hs : Tryz.prog.globals.size = 8 := by kernel_rfl
  rw [hs]
  obtain ⟨b0, o0, t0, w0⟩ := laid_err (n := "strconv.ErrRange") (nm := "*errors.errorString") (tp := 208) (te := 210) (ts := 9) h (.tail _ (.tail _ (.tail _ (.tail _ (.head _))))) (g := 5) (ti := 115) (by kernel_rfl) (by kernel_rfl) Tryz.underlying115 rowErr Tryz.underlying208 Tryz.underlying210 rfl rfl Tryz.underlying9 (by kernel_rfl) (by kernel_rfl)
  obtain ⟨b1, o1, t1, w1⟩ := laid_err (n := "strconv.ErrSyntax") (nm := "*errors.errorString") (tp := 208) (te := 210) (ts := 9) h (.tail _ (.tail _ (.tail _ (.tail _ (.tail _ (.head _)))))) (g := 4) (ti := 115) (by kernel_rfl) (by kernel_rfl) Tryz.underlying115 rowErr Tryz.underlying208 Tryz.underlying210 rfl rfl Tryz.underlying9 (by kernel_rfl) (by kernel_rfl)
  let bz : Nat → Nat := fun i => if i = 9 then b0 else if i = 10 then b1 else bx i
  let dz : Nat → Int := fun i => if i = 9 then (o0 : Int) else if i = 10 then (o1 : Int) else dx i
  have T3 := fun em : Em => laid_table (name := "internal/strconv.uint64pow10") (k := .u64) (zs := pow10) h (.tail _ (.tail _ (.head _))) (g := 3) (by kernel_rfl) (by kernel_rfl) Tryz.underlying190 Tryz.underlying162 (by kernel_rfl) (by kernel_rfl) (by decide) em
  have T6 := fun em : Em => laid_table (name := "math/bits.deBruijn32tab") (k := .u8) (zs := tab32) h (.head _) (g := 6) (by kernel_rfl) (by kernel_rfl) Tryz.underlying211 Tryz.underlying5 (by kernel_rfl) (by kernel_rfl) (by decide) em
  have T7 := fun em : Em => laid_table (name := "math/bits.deBruijn64tab") (k := .u8) (zs := tab64) h (.tail _ (.head _)) (g := 7) (by kernel_rfl) (by kernel_rfl) Tryz.underlying212 Tryz.underlying5 (by kernel_rfl) (by kernel_rfl) (by decide) em
  have hj : ∀ j, 11 ≤ j → (Am.start W 8 N bz dz nx).b j = bx j ∧ (Am.start W 8 N bz dz nx).d j = dx j ∧ (Am.start W 8 N bz dz nx).n j = nx j := by
    intro j hj
    refine ⟨?_, ?_, ?_⟩ <;> simp only [Am.start, bz, dz] <;> (repeat rw [if_neg (by omega)])
  refine ⟨Am.start W 8 N bz dz nx, RH.start bz dz nx (by omega) (by decide) hsz ?_ ?_, rfl, hj⟩
  · intro g l hm
    simp only [begin0, List.mem_cons, Prod.mk.injEq, List.mem_nil_iff, or_false] at hm
    rcases hm with ⟨rfl, rfl⟩ | ⟨rfl, rfl⟩ | ⟨rfl, rfl⟩ | ⟨rfl, rfl⟩ | ⟨rfl, rfl⟩
    · exact ⟨by decide, by decide, T3 _⟩
    · refine ⟨by decide, by decide, _, t1, w1, fun k v hv => ?_⟩
      cases k with
      | zero =>
        simp only [List.getElem?_cons_zero, Option.some.injEq] at hv
        subst hv
        exact ⟨_, rfl, .iface _ _ _ (.ptr (e := Am.start W 8 N bz dz nx) 10 0 o1 (show (10 : Nat) < N by omega) (by simp [Am.start, dz]))⟩
      | succ k => simp at hv
    · refine ⟨by decide, by decide, _, t0, w0, fun k v hv => ?_⟩
      cases k with
      | zero =>
        simp only [List.getElem?_cons_zero, Option.some.injEq] at hv
        subst hv
        exact ⟨_, rfl, .iface _ _ _ (.ptr (e := Am.start W 8 N bz dz nx) 9 0 o0 (show (9 : Nat) < N by omega) (by simp [Am.start, dz]))⟩
      | succ k => simp at hv
    · exact ⟨by decide, by decide, T6 _⟩
    · exact ⟨by decide, by decide, T7 _⟩
  · intro i o hm
    obtain ⟨h1, h2, h3, ob, h4, h5⟩ := hP i o hm
    exact ⟨by omega, h2, h3, ob, by have := (hj i h1).1; simp only [Am.start, if_neg (show ¬ i < 8 by omega)] at this; rw [this]; exact h4, h5 _ rfl hj⟩

theorem gsize : Tryz.prog.globals.size < 11 := by
  have hs : Tryz.prog.globals.size = 8 := by kernel_rfl
  omega
theorem awakeF (el : Nat → TypeId) : retTrue (callA (Tryz.prog) ext prim0 20000 8 [] ⟨layO el begin0, 11⟩) = true := by kernel_rfl
theorem awakeOne : PrimOne Tryz.prog 8 (oneP begin0 11) :=
  one_ok mixed namesOK extOK prim0OK Tryz.func8 rfl gsize
    (by
      have hs : Tryz.prog.globals.size = 8 := by kernel_rfl
      rw [hs]
      intro g l hm
      simp only [begin0, List.mem_cons, Prod.mk.injEq, List.mem_nil_iff, or_false] at hm; rcases hm with ⟨rfl, rfl⟩ | ⟨rfl, rfl⟩ | ⟨rfl, rfl⟩ | ⟨rfl, rfl⟩ | ⟨rfl, rfl⟩ <;> exact ⟨by decide, by decide, by decide, by decide⟩) fun el => awakeF el
theorem awakeF2 (el : Nat → TypeId) : retTrue (callA (Tryz.prog) ext prim0 20000 16 [] ⟨layO el begin0, 11⟩) = true := by kernel_rfl
theorem awakeOne2 : PrimOne Tryz.prog 16 (oneP begin0 11) :=
  one_ok mixed namesOK extOK prim0OK Tryz.func16 rfl gsize
    (by
      have hs : Tryz.prog.globals.size = 8 := by kernel_rfl
      rw [hs]
      intro g l hm
      simp only [begin0, List.mem_cons, Prod.mk.injEq, List.mem_nil_iff, or_false] at hm; rcases hm with ⟨rfl, rfl⟩ | ⟨rfl, rfl⟩ | ⟨rfl, rfl⟩ | ⟨rfl, rfl⟩ | ⟨rfl, rfl⟩ <;> exact ⟨by decide, by decide, by decide, by decide⟩) fun el => awakeF2 el
noncomputable def prim1 (g : Nat) : Option Prim := bif Nat.beq g 135 then some LibP.len64P else bif Nat.beq g 123 then some LibP.fb10P else bif Nat.beq g 106 then some LibP.atoiP else bif Nat.beq g 98 then some LibS.sortP else prim0 g
theorem prim1OK : PrimOK Tryz.prog prim1 := by
  intro fid p h args H v H' hp
  unfold prim1 at h
  cases h1 : Nat.beq fid 135 with
  | true =>
    rw [h1] at h
    cases h
    obtain rfl := Nat.eq_of_beq_eq_true h1
    exact LibP.len64One args H v H' hp
  | false =>
    rw [h1] at h
    clear h1
    cases h1 : Nat.beq fid 123 with
    | true =>
      rw [h1] at h
      cases h
      obtain rfl := Nat.eq_of_beq_eq_true h1
      exact LibP.fb10One args H v H' hp
    | false =>
      rw [h1] at h
      clear h1
      cases h1 : Nat.beq fid 106 with
      | true =>
        rw [h1] at h
        cases h
        obtain rfl := Nat.eq_of_beq_eq_true h1
        exact LibP.atoiOne args H v H' hp
      | false =>
        rw [h1] at h
        clear h1
        cases h1 : Nat.beq fid 98 with
        | true =>
          rw [h1] at h
          cases h
          obtain rfl := Nat.eq_of_beq_eq_true h1
          exact LibS.sortOne args H v H' hp
        | false =>
          rw [h1] at h
          clear h1
          exact prim0OK fid p h args H v H' hp
noncomputable def prim (g : Nat) : Option Prim := bif Nat.beq g 8 then some (oneP begin0 11) else bif Nat.beq g 16 then some (oneP begin0 11) else prim1 g
theorem primOK : PrimOK Tryz.prog prim := by
  intro fid p h args H v H' hp
  unfold prim at h
  cases h1 : Nat.beq fid 8 with
  | true =>
    rw [h1] at h
    cases h
    obtain rfl := Nat.eq_of_beq_eq_true h1
    exact awakeOne args H v H' hp
  | false =>
    rw [h1] at h
    clear h1
    cases h1 : Nat.beq fid 16 with
    | true =>
      rw [h1] at h
      cases h
      obtain rfl := Nat.eq_of_beq_eq_true h1
      exact awakeOne2 args H v H' hp
    | false =>
      rw [h1] at h
      clear h1
      exact prim1OK fid p h args H v H' hp

/-- what is shown of a law over the symbolic heap holds of the model's run -/
theorem lawRun {Q : Type} {enc : TypeId × Value → Q} {g : Nat} {fn : Func} {b : Code} (hf : Tryz.prog.funcs[g]? = some fn) (hb : fn.body = some b) (an : Nat → K.An) (hA : K.PrOK Tryz.prog an) {W : World} (hL : laidMet Tryz.prog laid W) (hsz : 8 ≤ W.heap.size) {base : Nat} {spare : Nat → Bool} {held : Bool} (hsp : ∀ b, spare b = true) {tys : List K.Ty} {vs : List Value}
    (ha : K.ArgsOf enc Tryz.prog W base spare held tys vs) (law : ∀ H as' ds, K.ArgsIs H tys as' ds → hasT H begin0 → 11 ≤ H.next → ∃ H', K.CK Tryz.prog (K.regK Tryz.prog) ext prim an (.func (.func g) [] []) as' H = some (.bool true, H')) :
    Calls Tryz.prog g vs.toArray W fun en w' => en = .returned (.bool true) ∧ Below W.heap.size W w' := by
  obtain ⟨as', os, ds, a1, a2, a3, a4⟩ := K.open_args hsp ha 11
  have hs : Tryz.prog.globals.size = 8 := by kernel_rfl
  obtain ⟨e, hR, hN, hj⟩ := begins hL hsz (fun i => ((os[i - 11]?).map (·.b)).getD 0) (fun _ => 0) (fun i => ((os[i - 11]?).map (·.n)).getD 0) (N := 11 + os.length) (by omega) (PO := K.poOf 11 os) (by
    intro i o hm
    obtain ⟨j, ob, h1, rfl, rfl⟩ := K.poOf_mem os 11 i o hm
    have hjl := (List.getElem?_eq_some_iff.1 h1).1
    have hfits : ∀ e : Em, e.N = 11 + os.length → (∀ j, 11 ≤ j → e.b j = ((os[j - 11]?).map (·.b)).getD 0 ∧ e.d j = 0 ∧ e.n j = ((os[j - 11]?).map (·.n)).getD 0) → K.Fits e 11 os := by
      intro e he hj
      refine ⟨by omega, fun j o ho => ?_⟩
      obtain ⟨x, y, z⟩ := hj (11 + j) (by omega)
      rw [Nat.add_sub_cancel_left, ho] at x z
      exact ⟨x, y, z⟩
    have hex : ∃ ow, W.heap[ob.b]? = some ow := by
      let e0 : Em := ⟨fun j => ((os[j - 11]?).map (·.b)).getD 0, fun _ => 0, fun j => ((os[j - 11]?).map (·.n)).getD 0, 11 + os.length⟩
      obtain ⟨ow, h, _⟩ := a2 e0 (hfits e0 rfl fun j _ => ⟨rfl, rfl, rfl⟩) j ob h1
      exact ⟨ow, h⟩
    obtain ⟨ow, how⟩ := hex
    refine ⟨by omega, by omega, a3 ob (List.mem_of_getElem? h1), ow, ?_, fun e he hj => ?_⟩
    · rw [Nat.add_sub_cancel_left, h1]; exact how
    · obtain ⟨ow2, h, h2⟩ := a2 e (hfits e he hj) j ob h1
      rw [how] at h; cases h
      exact h2)
  have hfit : K.Fits e 11 os := by
    refine ⟨by omega, fun j o ho => ?_⟩
    obtain ⟨x, y, z⟩ := hj (11 + j) (by omega)
    rw [Nat.add_sub_cancel_left, ho] at x z
    exact ⟨x, y, z⟩
  have hhas : K.Has ⟨layP (K.poOf 11 os) (layO (elAt W) begin0), 11 + os.length⟩ 11 os := ⟨Nat.le_refl _, fun j o ho => K.layP_poOf os 11 _ j o ho⟩
  have hT : hasT ⟨layP (K.poOf 11 os) (layO (elAt W) begin0), 11 + os.length⟩ begin0 := by
    refine ⟨elAt W, fun g l hm => ?_⟩
    have hg : g < 11 := by
      simp only [begin0, List.mem_cons, Prod.mk.injEq, List.mem_nil_iff, or_false] at hm; rcases hm with ⟨rfl, rfl⟩ | ⟨rfl, rfl⟩ | ⟨rfl, rfl⟩ | ⟨rfl, rfl⟩ | ⟨rfl, rfl⟩ <;> decide
    show (layP _ _).get g = _
    rw [K.layP_below os 11 _ g hg]
    exact K.layO_has _ _ (by decide) g l hm
  obtain ⟨H', hk⟩ := law _ as' ds (a4 _ hhas) hT (Nat.le_add_right _ _)
  refine (K.CK_calls mixed namesOK extOK primOK K.regK_sound hA hk hf hb hR (as' := vs.toArray) (by simpa using a1 e hfit)).mono fun en w' ⟨e', v', h1, _, hR', hv⟩ => ?_
  have := hv.bool_inv
  subst this
  exact ⟨h1, ⟨hR'.os, hR'.tape, hR'.output, hR'.size, fun k hk => (hR'.frame k hk).2⟩⟩
/-- awake, from whatever heap has the listed variables -/
theorem awake_c2 (an : Nat → K.An) {H : Hp} (hT : hasT H begin0) (hn : 11 ≤ H.next) : K.CK Tryz.prog (K.regK Tryz.prog) ext prim an (.func (.func 16) [] []) [] H = some (.bool true, H) := by
  refine K.ck_prim (p := oneP begin0 11) (by kernel_rfl) ?_
  unfold oneP
  rw [if_pos ⟨rfl, hT, hn⟩]
end Go.Proofs.YthljbjokonglhaaGreatDoor.DfEnv
namespace Go.Proofs.YthljbjokonglhaaGreatDoor.DfK
open Go Am Am.K DfEnv
set_option linter.unusedVariables false
set_option maxRecDepth 100000
noncomputable section
noncomputable abbrev P : Program := Tryz.prog
noncomputable def anL : List (Nat × An) := [
 (28, (.n (.n .nl))),
 (62, (.n (.q (.n (.cd (.n .nl) .nl)) (.s [0, 1, 2, 3] (.n (.cd (.n .nl) .nl)) (.s [0, 1, 2, 3] (.n (.cd .nl .nl)) (.t [0, 1, 2, 3] (.n (.n (.n (.s [0, 9, 10] (.v [0, 9, 10] (.lp [0, 1, 2, 3, 9, 10] (.q (.n (.cd .nl .nl)) (.b (.n (.q (.n (.cd .nl .nl)) (.t [0, 1, 2, 3, 9, 10, 11] (.t [0, 1, 2, 3, 9, 10] .nl)))))))) (.t [9, 10] (.n .nl)))))))))))),
 (91, (.n (.s [0, 1] (.n (.cd (.n .nl) .nl)) (.s [0, 1] (.n (.cd (.n .nl) .nl)) (.n (.v [4] (.lp [0, 1, 5] (.b (.n (.q (.n (.cd (.n .nl) .nl)) (.n .nl))))))))))),
 (92, (.n (.n .nl))),
 (63, (.n (.n .nl))),
 (105, (.n (.n (.s [0, 1, 5] (.b (.t [0, 1, 5, 16] (.cd (.n .nl) (.n (.cd (.n .nl) (.t [0, 1, 5, 31] (.cd (.n .nl) (.t [0, 1, 5, 36] (.cd (.n .nl) .nl))))))))) (.n (.n (.n (.t [0, 1, 5, 6, 7, 8, 9] (.n (.s [] (.v [] (.lp [0, 1, 5, 6, 7, 8, 9, 10] (.q (.n (.cd .nl .nl)) (.b (.s [0, 1, 5, 6, 7, 8, 9, 10] (.t [0, 1, 5, 6, 7, 8, 9, 10, 64] (.cd (.t [0, 1, 5, 6, 7, 8, 9, 10, 11] (.q (.n (.cd (.n .nl) .nl)) .nl)) .nl)) (.s [0, 1, 5, 6, 7, 8, 9, 10] (.t [0, 1, 5, 6, 7, 8, 9, 10, 93] (.cd (.n .nl) .nl)) (.n (.n (.t [0, 1, 5, 6, 7, 8, 9, 10, 107] (.cd (.t [8, 12] (.s [] (.n (.cd (.n .nl) .nl)) (.n .nl))) (.t [0, 1, 5, 6, 7, 8, 9, 10, 132] (.cd (.t [8, 13] (.q (.n (.cd (.n .nl) .nl)) (.n .nl))) .nl)))))))))))) (.n .nl))))))))))),
 (115, (.n (.n .nl))),
 (93, (.n (.s [0] (.n (.n (.cd (.n .nl) .nl))) (.n .nl)))),
 (66, (.n (.n .nl))),
 (95, (.n (.n .nl))),
 (107, (.n (.s [0, 1] (.n (.cd (.s [0] (.t [0, 17] (.cd (.n .nl) .nl)) (.n (.n (.s [0, 5, 6] (.n (.cd .nl .nl)) (.n (.t [0, 5, 7] (.s [5, 7] (.n (.cd (.n (.n .nl)) .nl)) (.n .nl)))))))) .nl)) (.t [9] (.n .nl))))),
 (121, (.n (.s [0] (.n (.cd (.n .nl) .nl)) (.n .nl)))),
 (122, (.n (.n (.n .nl)))),
 (145, (.n (.n .nl))),
 (146, (.n (.q (.n (.cd (.n .nl) .nl)) (.n .nl)))),
 (64, (.n (.s [] (.n (.v [] (.lp [0, 1, 7, 8] (.n (.q (.cd .nl .nl) (.s [0, 1, 7, 8] (.b (.n (.t [0, 1, 5, 7, 8, 16] (.cd (.n .nl) .nl)))) .nl)))))) (.n .nl)))),
 (58, (.n (.n .nl))),
 (72, (.n (.s [] (.n (.v [] (.lp [0, 3, 7, 8] (.n (.q (.cd .nl .nl) (.s [0, 3, 7, 8] (.b (.n (.t [0, 3, 5, 7, 8, 16] (.cd (.n .nl) .nl)))) .nl)))))) (.n .nl)))),
 (42, (.n (.n .nl))),
 (48, (.n (.n .nl))),
 (79, (.n (.s [] (.n (.v [] (.lp [0, 1, 7, 8] (.n (.q (.cd .nl .nl) (.s [0, 1, 7, 8] (.b (.n (.t [0, 1, 5, 7, 8, 16] (.cd (.n .nl) .nl)))) .nl)))))) (.n .nl)))),
 (80, (.n (.s [] (.n (.v [] (.lp [0, 1, 7, 8] (.n (.q (.cd .nl .nl) (.s [0, 1, 7, 8] (.b (.n (.t [0, 1, 5, 7, 8, 16] (.cd (.n .nl) .nl)))) .nl)))))) (.n .nl)))),
 (51, (.n (.n .nl))),
 (59, (.n (.n .nl))),
 (82, (.n (.s [] (.n (.v [] (.lp [0, 1, 7, 8] (.n (.q (.cd .nl .nl) (.s [0, 1, 7, 8] (.b (.n (.t [0, 1, 5, 7, 8, 16] (.cd (.n .nl) .nl)))) .nl)))))) (.n .nl)))),
 (74, (.n (.q (.n (.cd (.n .nl) .nl)) (.n .nl)))),
 (75, (.n (.q (.n (.cd (.n .nl) .nl)) (.n .nl)))),
 (76, (.n (.q (.n (.cd (.n .nl) .nl)) (.n .nl)))),
 (77, (.n (.q (.n (.cd (.n .nl) .nl)) (.n .nl)))),
 (39, (.n (.s [1] (.t [1, 13] (.cd (.n .nl) .nl)) (.n (.s [] (.n (.v [] (.lp [1, 3, 16, 17, 18] (.n (.q (.cd .nl .nl) (.s [1, 3, 16, 17, 18] (.b (.n (.s [1, 3, 5, 16, 17, 18] (.t [1, 3, 5, 16, 17, 18, 45] (.cd (.n .nl) .nl)) .nl))) .nl)))))) (.n .nl)))))),
 (70, (.n (.n .nl))),
 (71, (.n (.q (.n (.cd (.n .nl) .nl)) (.n (.s [7] (.n (.v [7] (.lp [1, 2, 7, 14, 15, 16] (.n (.q (.cd .nl .nl) (.s [1, 2, 7, 14, 15, 16] (.v [1, 2, 7, 14, 15, 16] (.n (.t [1, 2, 7, 9, 14, 15, 16, 24] (.cd .nl .nl)))) .nl)))))) (.n (.n .nl))))))),
 (41, (.n (.n .nl))),
 (40, (.n (.n (.n (.s [5] (.n (.v [5] (.lp [2, 5, 6, 7] (.q (.n (.cd .nl .nl)) (.s [2, 5, 6, 7] (.v [2, 5, 6, 7] (.n (.s [2, 5, 7, 8] (.n (.v [2, 5, 7, 8] (.lp [2, 5, 7, 8, 23, 24, 25] (.n (.q (.cd .nl .nl) (.s [2, 5, 7, 8, 23, 24, 25] (.v [2, 5, 7, 8, 23, 24, 25] (.n (.t [2, 5, 7, 8, 23, 24, 25, 31, 32, 33] (.v [2, 5, 7, 8, 23, 24, 25] (.lp [2, 5, 7, 8, 23, 24, 25, 31, 32, 33] (.n (.q (.cd .nl .nl) (.s [2, 5, 7, 8, 23, 24, 25, 31, 32, 33] (.v [2, 5, 7, 8, 23, 24, 25, 31, 32, 33] (.n (.t [2, 5, 7, 8, 12, 23, 24, 25, 31, 32, 33, 41] (.cd (.t [2, 5, 7, 8, 12, 23, 24, 25, 31, 32, 33] .nl) .nl)))) .nl)))))))) .nl)))))) .nl))) .nl))))) (.n .nl)))))),
 (14, (.n (.q (.n (.cd (.n .nl) .nl)) (.n (.s [1, 3, 4] (.n (.v [1, 3, 4] (.lp [1, 3, 4, 15, 16] (.n (.q (.cd .nl .nl) (.s [1, 3, 4, 15, 16] (.v [1, 3, 4, 15, 16] (.n (.t [1, 3, 4, 5, 6, 15, 16] (.t [1, 3, 4, 5, 6, 15, 16, 35] (.cd .nl .nl))))) .nl)))))) (.q (.n (.cd (.n .nl) .nl)) (.n (.s [7] (.n (.v [7] (.lp [1, 3, 7, 8] (.q (.n (.cd .nl .nl)) (.s [1, 3, 7, 8] (.v [1, 3, 7, 8] (.t [1, 3, 7, 8, 56, 57, 58] (.v [1, 3, 7, 8] (.lp [1, 3, 7, 8, 56, 57, 58] (.n (.q (.cd .nl .nl) (.s [1, 3, 7, 8, 56, 57, 58] (.b (.n (.t [1, 3, 7, 8, 10, 56, 57, 58, 74] (.cd (.n .nl) .nl)))) .nl))))))) .nl))))) (.n .nl))))))))),
 (27, (.n (.n .nl))),
 (94, (.n (.s [0] (.n (.cd (.n .nl) .nl)) (.t [0, 4, 5] (.n .nl))))),
 (65, (.n (.t [0, 1, 2, 3, 9, 10] (.s [10] (.n (.v [10] (.n (.cd (.s [] (.n (.v [] (.lp [0, 3, 23, 24, 25] (.n (.q (.cd .nl .nl) (.s [0, 3, 23, 24, 25] (.b (.n (.n (.q (.n (.cd (.n .nl) .nl)) .nl)))) .nl)))))) (.n .nl)) (.n (.cd .nl (.n (.cd .nl (.n (.cd .nl (.n (.cd (.t [2] (.n .nl)) .nl)))))))))))) (.n .nl))))),
 (29, (.n (.t [0, 1, 4, 6] (.n (.s [4, 6] (.n (.v [4, 6] (.lp [1, 4, 6, 7, 20, 21, 22] (.n (.q (.cd .nl .nl) (.s [1, 4, 6, 7, 20, 21, 22] (.b (.n (.t [1, 4, 6, 7, 9, 10, 11, 20, 21, 22] (.n (.s [1, 4, 6, 7, 13, 20, 21, 22] (.t [1, 4, 6, 7, 13, 20, 21, 22, 50] (.cd (.n .nl) .nl)) .nl))))) .nl)))))) (.n .nl)))))),
 (9, (.n (.s [0, 2] (.n (.cd (.n .nl) .nl)) (.n (.n (.s [2, 4, 5] (.n (.v [2, 4, 5] (.lp [2, 4, 5, 20, 21, 22] (.n (.q (.cd .nl .nl) (.s [2, 4, 5, 20, 21, 22] (.b (.n (.n (.t [2, 4, 5, 8, 20, 21, 22] .nl)))) .nl)))))) (.n (.s [2, 9] (.n (.v [2, 9] (.lp [2, 5, 9, 39, 40, 41] (.n (.q (.cd .nl .nl) (.s [2, 5, 9, 39, 40, 41] (.b (.n (.t [2, 5, 9, 12, 13, 39, 40, 41] (.s [2, 5, 9, 12, 39, 40, 41] (.n (.cd (.n .nl) .nl)) .nl)))) .nl)))))) (.s [2, 9] (.n (.n (.cd (.n .nl) .nl))) (.n .nl)))))))))),
 (32, (.n (.n .nl))),
 (38, (.n (.s [] (.n (.v [] (.lp [1, 8, 9, 10] (.n (.q (.cd .nl .nl) (.s [1, 8, 9, 10] (.b (.t [1, 5, 6, 8, 9, 10] (.n (.cd (.n .nl) .nl)))) .nl)))))) (.n .nl)))),
 (11, (.n (.s [1] (.t [1, 10] (.cd (.n .nl) .nl)) (.n (.s [1] (.t [1, 18, 19, 20] (.v [1] (.lp [1, 18, 19, 20] (.n (.q (.cd .nl .nl) (.s [1, 18, 19, 20] (.b (.n (.n (.cd (.n .nl) .nl)))) .nl)))))) (.s [] (.t [35] (.cd (.n .nl) .nl)) (.n .nl))))))),
 (33, (.n (.n .nl))),
 (34, (.n (.t [2, 4, 6] (.n (.n .nl))))),
 (35, (.n (.n .nl))),
 (36, (.n (.n .nl))),
 (37, (.n (.s [] (.n (.v [] (.lp [1, 2, 3, 9, 10, 11] (.n (.q (.cd .nl .nl) (.s [1, 2, 3, 9, 10, 11] (.b (.t [1, 2, 3, 7, 8, 9, 10, 11] (.t [1, 2, 3, 9, 10, 11, 34] (.cd (.n .nl) .nl)))) .nl)))))) (.n .nl)))),
 (15, (.n (.t [1, 2, 3] (.s [2, 3] (.n (.v [2, 3] (.lp [1, 2, 3, 14, 15, 16] (.n (.q (.cd .nl .nl) (.s [1, 2, 3, 14, 15, 16] (.v [1, 2, 3, 14, 15, 16] (.t [1, 2, 3, 4, 5, 14, 15, 16] (.n (.v [1, 2, 3, 14, 15, 16] (.lp [1, 2, 3, 4, 14, 15, 16, 22, 23, 24] (.n (.q (.cd .nl .nl) (.s [1, 2, 3, 4, 14, 15, 16, 22, 23, 24] (.v [1, 2, 3, 4, 14, 15, 16, 22, 23, 24] (.n (.t [1, 2, 3, 4, 7, 8, 14, 15, 16, 22, 23, 24] (.t [1, 2, 3, 4, 8, 14, 15, 16, 22, 23, 24, 48] (.cd .nl .nl))))) .nl)))))))) .nl)))))) (.n .nl))))),
 (17, (.n (.s [1, 2] (.n (.n (.cd (.n .nl) .nl))) (.t [2, 5] (.n (.n .nl)))))),
 (44, (.n (.t [1, 2] (.s [1, 2] (.t [1, 2, 13, 14, 15] (.v [1, 2] (.lp [1, 2, 13, 14, 15] (.n (.q (.cd .nl .nl) (.s [1, 2, 13, 14, 15] (.b (.t [1, 2, 3, 4, 13, 14, 15] .nl)) .nl)))))) (.t [1, 2] (.t [1, 2] (.n .nl))))))),
 (45, (.n (.n (.s [1, 2] (.t [1, 2, 10, 11, 12] (.v [1, 2] (.lp [1, 2, 10, 11, 12] (.n (.q (.cd .nl .nl) (.s [1, 2, 10, 11, 12] (.b (.t [1, 2, 3, 4, 10, 11, 12] (.t [1, 2, 3, 4, 5, 10, 11, 12] (.s [1, 2, 3, 10, 11, 12] (.t [1, 2, 3, 10, 11, 12, 47] (.cd .nl .nl)) .nl)))) .nl)))))) (.n (.cd .nl .nl)))))),
 (78, (.n (.n .nl))),
 (46, (.n (.s [] (.b (.t [2, 5] (.cd (.n .nl) (.n (.cd (.n .nl) .nl))))) (.n .nl)))),
 (47, (.n (.s [1, 2, 3] (.n (.n (.cd (.n .nl) .nl))) (.s [] (.t [2, 8] (.t [28] (.cd (.n .nl) .nl))) (.n .nl))))),
 (18, (.n (.s [1, 2, 3, 4, 8] (.n (.n (.cd (.n .nl) .nl))) (.t [1, 2, 3, 4, 8, 11] (.s [1, 2, 3, 4, 8, 11] (.b (.n (.cd (.n .nl) (.t [1, 2, 3, 4, 8, 11, 29] (.cd (.n .nl) .nl))))) (.n (.t [1, 4, 8, 11] (.t [4, 8] (.n .nl))))))))),
 (19, (.n (.s [1, 2, 3, 4, 8] (.t [1, 2, 3, 4, 8, 10] (.n (.cd (.n .nl) .nl))) (.n (.t [4, 8] (.n (.n .nl))))))),
 (52, (.t [0, 2, 6, 7] (.s [0, 6] (.t [0, 2, 6, 7, 28] (.cd (.n .nl) .nl)) (.t [0] .nl)))),
 (21, (.n (.s [1, 3, 4, 8] (.t [1, 3, 4, 8, 10] (.n (.cd (.n .nl) .nl))) (.n (.n (.n .nl)))))),
 (23, (.n (.n (.s [2, 4] (.n (.v [2, 4] (.lp [1, 2, 4, 11, 12] (.n (.q (.cd .nl .nl) (.s [1, 2, 4, 11, 12] (.v [1, 2, 4, 11, 12] (.n (.t [1, 2, 4, 5, 6, 11, 12] (.v [1, 2, 4, 11, 12] (.t [1, 2, 4, 5, 6, 11, 12, 19] (.cd .nl (.t [1, 2, 4, 5, 6, 11, 12, 31] (.cd .nl (.t [1, 2, 4, 6, 11, 12, 40] (.cd .nl .nl)))))))))) .nl)))))) (.n .nl))))),
 (26, (.n (.s [2, 3, 4] (.b (.n (.cd (.n .nl) (.t [2, 3, 4, 11] (.cd (.n .nl) (.t [2, 3, 4, 17] (.cd (.n .nl) .nl))))))) (.n (.t [2, 4] (.n (.n .nl))))))),
 (60, (.n (.n .nl))),
 (81, (.n (.s [0, 1] (.t [0, 1, 12] (.cd (.n .nl) .nl)) (.n (.s [5] (.n (.v [5] (.lp [1, 5, 6] (.s [1, 5, 6] (.t [1, 5, 6, 21] (.cd .nl .nl)) (.q (.b .nl) .nl))))) (.n .nl)))))),
 (7, (.n (.q (.n (.cd (.n .nl) .nl)) (.s [0, 1] (.t [0, 1, 26] (.cd (.n .nl) .nl)) (.t [1, 5, 6] (.q (.n (.cd (.n .nl) .nl)) (.n (.s [] (.n (.v [] (.lp [1, 5, 7, 8] (.q (.n (.cd .nl .nl)) (.s [1, 5, 7, 8] (.v [1, 5, 7, 8] (.n (.t [1, 5, 7, 8, 9] (.n (.n (.s [1, 5, 7, 8, 9, 10, 11] (.t [1, 5, 7, 8, 9, 10, 11, 63] (.cd (.n .nl) .nl)) (.t [1, 5, 7, 8, 9, 10, 11, 12] (.s [1, 5, 7, 8, 9, 10, 11] (.t [1, 5, 7, 8, 9, 10, 11, 12, 78] (.v [1, 5, 7, 8, 9, 10, 11] (.n (.cd .nl (.n (.cd .nl (.n (.cd .nl (.n (.cd .nl .nl)))))))))) (.s [1, 5, 7, 8, 9] (.n (.cd .nl .nl)) (.s [1, 5, 7, 8, 9] (.t [1, 5, 7, 8, 9, 160] (.cd (.n .nl) .nl)) (.n (.s [1, 5, 7, 8, 13] (.n (.v [1, 5, 7, 8, 13] (.lp [1, 5, 7, 8, 9, 13, 14] (.s [1, 5, 7, 8, 9, 13, 14] (.t [1, 5, 7, 8, 9, 13, 14, 165] (.cd .nl .nl)) (.s [1, 5, 7, 8, 9, 13, 14] (.v [1, 5, 7, 8, 9, 13, 14] (.t [1, 5, 7, 8, 9, 13, 14, 15] (.s [1, 5, 7, 8, 9, 13, 14, 15] (.t [1, 5, 7, 8, 9, 13, 14, 15, 220] (.cd (.n .nl) .nl)) (.s [1, 5, 7, 8, 9, 13, 14, 15] (.t [1, 5, 7, 8, 9, 13, 14, 15, 227] (.cd .nl .nl)) (.n (.v [1, 5, 7, 8, 9, 13, 14] (.lp [1, 5, 7, 8, 9, 13, 14, 15, 16] (.s [1, 5, 7, 8, 9, 13, 14, 15, 16] (.t [1, 5, 7, 8, 9, 13, 14, 15, 16, 234] (.cd .nl .nl)) (.s [1, 5, 7, 8, 9, 13, 14, 15, 16] (.b (.t [1, 5, 7, 8, 9, 13, 14, 15, 16, 275] (.cd (.n .nl) .nl))) .nl))))))))) .nl))))) (.t [1, 5, 7, 8, 284] (.cd (.n .nl) .nl)))))))))))))) .nl))))) (.n .nl))))))))),
 (25, (.n (.t [2, 4, 5] (.s [2, 4] (.n (.cd (.n .nl) .nl)) (.n .nl))))),
 (0, .nl)]
noncomputable def an (g : Nat) : An := lkA anL g
theorem anOK : PrOK P an := lkA_plain (by kernel_rfl)
noncomputable abbrev cK : CF := CK P (regK P) ext prim an

noncomputable def s_strings_Split (J : JT) (G : GT) (cf : CF) (a0 a1 : AV) (H : Hp) : R :=
 B2 (cf (.func (.func 62) [] []) [a0, a1, (.int .i64 0), (.int .i64 (-1))] H) fun v0 h1 =>
 some (v0, h1)

theorem e_strings_Split (J : JT) (G : GT) (cf : CF) (a0 a1 : AV) (H : Hp) : callF P J G prim an cf 28 [a0, a1] H = s_strings_Split J G cf a0 a1 H := by kernel_rfl

theorem c_strings_Split {a0 a1 : AV} {H : Hp} {r : AV × Hp} (h : s_strings_Split JN GO cK a0 a1 H = some r) : cK (.func (.func 28) [] []) [a0, a1] H = some r := callF_fix (first := []) (cap := []) ((e_strings_Split JN GO _ a0 a1 H).trans h)

noncomputable def bl_strings_genSplit (J : JT) (G : GT) (cf : CF) (j34 : K.Fn 3) (j35 : K.Fn 6) (x36 x37 x38 x39 x40 x41 : AV) (h42 : Hp) : R :=
 B1 (ilt x41 x39) fun v43 =>
 CD v43 (
 B2 (cf (.func (.func 92) [] []) [x36, x37] h42) fun v44 h45 =>
 B1 (ilt v44 (.int .i64 0)) fun v46 =>
 CD v46 (
 j34 x36 x40 x41 h45) (
 J 7 (fun j47 =>
 B1 (iadd v44 x38) fun v48 =>
 B1 (sls x36 none (some v48)) fun v49 =>
 B1 (ia 1 x40 x41) fun v50 =>
 B1 (st 1 v50 v49 h45) fun h51 =>
 j47 x36 x37 x38 x39 x40 x41 v44 h51) (fun x52 x53 x54 x55 x56 x57 x58 h59 =>
 J 6 (fun j60 =>
 B1 (lens x53) fun v61 =>
 B1 (iadd x58 v61) fun v62 =>
 B1 (sls x52 (some v62) none) fun v63 =>
 j60 v63 x53 x54 x55 x56 x57 h59) (fun x64 x65 x66 x67 x68 x69 h70 =>
 B1 (iadd x69 (.int .i64 1)) fun v71 =>
 j35 x64 x65 x66 x67 x68 v71 h70)))) (
 j34 x36 x40 x41 h42)

noncomputable def l_strings_genSplit (J : JT) (G : GT) (cf : CF) (j34 : K.Fn 3) : K.Fn 6 := lpF P an J G cf 62 [1, 1, 1, 1, 1, 1, 1, 1, 0, 0, 0] [0, 1, 2, 3, 9, 10] (fun q t H => match Nat.beq q 0 with | true => app 3 j34 (vals [0, 9, 10] t) H | false => (fun _ _ _ => none) q t H)

theorem rl_strings_genSplit (J : JT) (G : GT) (cf : CF) (j34 : K.Fn 3) (j35 : K.Fn 6) (x36 x37 x38 x39 x40 x41 : AV) (h42 : Hp) : lpB P an J G cf 62 [1, 1, 1, 1, 1, 1, 1, 1, 0, 0, 0] [0, 1, 2, 3, 9, 10] (fun q t H => match Nat.beq q 0 with | true => app 3 j34 (vals [0, 9, 10] t) H | false => (fun _ _ _ => none) q t H) j35 [x36, x37, x38, x39, x40, x41] h42 = bl_strings_genSplit J G cf j34 j35 x36 x37 x38 x39 x40 x41 h42 := by kernel_rfl

theorem ql_strings_genSplit (cf : CF) (j34 : K.Fn 3) (x36 x37 x38 x39 x40 x41 : AV) (h42 : Hp) : l_strings_genSplit JN GO cf j34 x36 x37 x38 x39 x40 x41 h42 = bl_strings_genSplit JN GO cf j34 (l_strings_genSplit JN GO cf j34) x36 x37 x38 x39 x40 x41 h42 := Eq.trans (b := app 6 (l_strings_genSplit JN GO cf j34) [x36, x37, x38, x39, x40, x41] h42) (by kernel_rfl) ((lpQ cf _ _ _ _ [x36, x37, x38, x39, x40, x41] rfl h42).trans (rl_strings_genSplit JN GO cf j34 _ x36 x37 x38 x39 x40 x41 h42))

noncomputable def s_strings_genSplit (J : JT) (G : GT) (cf : CF) (a0 a1 a2 a3 : AV) (H : Hp) : R :=
 B1 (ieq a3 (.int .i64 0)) fun v0 =>
 CD v0 (
 some (.slice0, H)) (
 J 4 (fun j1 =>
 B1 (seq a1 (.str [])) fun v2 =>
 CD v2 (
 B2 (cf (.func (.func 90) [] []) [a0, a3] H) fun v3 h4 =>
 some (v3, h4)) (
 j1 a0 a1 a2 a3 H)) (fun x5 x6 x7 x8 h9 =>
 J 4 (fun j10 =>
 B1 (ilt x8 (.int .i64 0)) fun v11 =>
 CD v11 (
 B2 (cf (.func (.func 91) [] []) [x5, x6] h9) fun v12 h13 =>
 B1 (iadd v12 (.int .i64 1)) fun v14 =>
 j10 x5 x6 x7 v14 h13) (
 j10 x5 x6 x7 x8 h9)) (fun x15 x16 x17 x18 h19 =>
 J 4 (fun j20 =>
 B1 (lens x15) fun v21 =>
 B1 (iadd v21 (.int .i64 1)) fun v22 =>
 B2 (builtinA P .min #[3, 3] [x18, v22] h19) fun v23 h24 =>
 j20 x15 x16 x17 v23 h24) (fun x25 x26 x27 x28 h29 =>
 B2 (mks [(.str [])] 9 1 x28 x28 h29) fun v30 h31 =>
 B1 (isub x28 (.int .i64 1)) fun v32 =>
 J 3 (fun j33 =>
 J 3 (fun j34 =>
 l_strings_genSplit J G cf j34 x25 x26 x27 v32 v30 (.int .i64 0) h31) (fun x72 x73 x74 h75 =>
 j33 x72 x73 x74 h75)) (fun x76 x77 x78 h79 =>
 J 2 (fun j80 =>
 B1 (ia 1 x77 x78) fun v81 =>
 B1 (st 1 v81 x76 h79) fun h82 =>
 j80 x77 x78 h82) (fun x83 x84 h85 =>
 B1 (iadd x84 (.int .i64 1)) fun v86 =>
 B1 (sll 1 x83 none (some v86) none) fun v87 =>
 some (v87, h85)))))))

theorem e_strings_genSplit (J : JT) (G : GT) (cf : CF) (a0 a1 a2 a3 : AV) (H : Hp) : callF P J G prim an cf 62 [a0, a1, a2, a3] H = s_strings_genSplit J G cf a0 a1 a2 a3 H := by kernel_rfl

theorem c_strings_genSplit {a0 a1 a2 a3 : AV} {H : Hp} {r : AV × Hp} (h : s_strings_genSplit JN GO cK a0 a1 a2 a3 H = some r) : cK (.func (.func 62) [] []) [a0, a1, a2, a3] H = some r := callF_fix (first := []) (cap := []) ((e_strings_genSplit JN GO _ a0 a1 a2 a3 H).trans h)

noncomputable def l_strings_Count (J : JT) (G : GT) (cf : CF) (j18 : K.Fn 1) : K.Fn 3 := lpF P an J G cf 91 [1, 1, 1, 1, 0, 0] [0, 1, 5] (fun q t H => match Nat.beq q 0 with | true => app 1 j18 (vals [4] t) H | false => (fun _ _ _ => none) q t H)

noncomputable def s_strings_Count (J : JT) (G : GT) (cf : CF) (a0 a1 : AV) (H : Hp) : R :=
 J 2 (fun j0 =>
 B1 (lens a1) fun v1 =>
 B1 (ieq v1 (.int .i64 0)) fun v2 =>
 CD v2 (
 B2 (cf (.func (.func 103) [] []) [a0] H) fun v3 h4 =>
 B1 (iadd v3 (.int .i64 1)) fun v5 =>
 some (v5, h4)) (
 j0 a0 a1 H)) (fun x6 x7 h8 =>
 J 2 (fun j9 =>
 B1 (lens x7) fun v10 =>
 B1 (ieq v10 (.int .i64 1)) fun v11 =>
 CD v11 (
 B1 (ixs x7 (.int .i64 0)) fun v12 =>
 B2 (cf (.func (.func 104) [] []) [x6, v12] h8) fun v13 h14 =>
 some (v13, h14)) (
 j9 x6 x7 h8)) (fun x15 x16 h17 =>
 J 1 (fun j18 =>
 l_strings_Count J G cf j18 x15 x16 (.int .i64 0) h17) (fun x31 h32 =>
 some (x31, h32))))

theorem e_strings_Count (J : JT) (G : GT) (cf : CF) (a0 a1 : AV) (H : Hp) : callF P J G prim an cf 91 [a0, a1] H = s_strings_Count J G cf a0 a1 H := by kernel_rfl

theorem c_strings_Count {a0 a1 : AV} {H : Hp} {r : AV × Hp} (h : s_strings_Count JN GO cK a0 a1 H = some r) : cK (.func (.func 91) [] []) [a0, a1] H = some r := callF_fix (first := []) (cap := []) ((e_strings_Count JN GO _ a0 a1 H).trans h)

noncomputable def s_strings_Index (J : JT) (G : GT) (cf : CF) (a0 a1 : AV) (H : Hp) : R :=
 B2 (cf (.func (.func 105) [] []) [a0, a1] H) fun v0 h1 =>
 some (v0, h1)

theorem e_strings_Index (J : JT) (G : GT) (cf : CF) (a0 a1 : AV) (H : Hp) : callF P J G prim an cf 92 [a0, a1] H = s_strings_Index J G cf a0 a1 H := by kernel_rfl

theorem c_strings_Index {a0 a1 : AV} {H : Hp} {r : AV × Hp} (h : s_strings_Index JN GO cK a0 a1 H = some r) : cK (.func (.func 92) [] []) [a0, a1] H = some r := callF_fix (first := []) (cap := []) ((e_strings_Index JN GO _ a0 a1 H).trans h)

noncomputable def s_strings_Cut (J : JT) (G : GT) (cf : CF) (a0 a1 : AV) (H : Hp) : R :=
 B2 (cf (.func (.func 93) [] []) [a0, a1] H) fun v0 h1 =>
 B1 (ex 0 v0) fun v2 =>
 B1 (ex 1 v0) fun v3 =>
 B1 (ex 2 v0) fun v4 =>
 some (.tuple [v2, v3, v4], h1)

theorem e_strings_Cut (J : JT) (G : GT) (cf : CF) (a0 a1 : AV) (H : Hp) : callF P J G prim an cf 63 [a0, a1] H = s_strings_Cut J G cf a0 a1 H := by kernel_rfl

theorem c_strings_Cut {a0 a1 : AV} {H : Hp} {r : AV × Hp} (h : s_strings_Cut JN GO cK a0 a1 H = some r) : cK (.func (.func 63) [] []) [a0, a1] H = some r := callF_fix (first := []) (cap := []) ((e_strings_Cut JN GO _ a0 a1 H).trans h)

noncomputable def l_internal_stringslite_Index (J : JT) (G : GT) (cf : CF) (j73 : K.Fn 0) : K.Fn 8 := lpF P an J G cf 105 [1, 1, 1, 1, 1, 1, 1, 1, 0, 0, 0] [0, 1, 5, 6, 7, 8, 9, 10] (fun q t H => match Nat.beq q 1 with | true => app 0 j73 (vals [] t) H | false => (fun _ _ _ => none) q t H)

noncomputable def s_internal_stringslite_Index (J : JT) (G : GT) (cf : CF) (a0 a1 : AV) (H : Hp) : R :=
 B1 (lens a1) fun v0 =>
 J 3 (fun j1 =>
 J 4 (fun j2 =>
 B1 (ieq v0 (.int .i64 0)) fun v3 =>
 G v3 false (fun k4 =>
 k4 a1 H) (fun v5 h6 =>
 G v3 false (fun k7 =>
 k7 a0 h6) (fun v8 h9 =>
 G v3 false (fun k10 =>
 B1 (seq v5 v8) fun v11 =>
 k10 v11 h9) (fun v12 h13 =>
 B1 (pk v3 (.bool true) v12) fun v14 =>
 j2 a0 a1 v0 v14 h13) h9) h6) H) (fun x15 x16 x17 x18 h19 =>
 CD x18 (
 some ((.int .i64 0), h19)) (
 B1 (ieq x17 (.int .i64 1)) fun v20 =>
 CD v20 (
 B1 (ixs x16 (.int .i64 0)) fun v21 =>
 B2 (cf (.func (.func 115) [] []) [x15, v21] h19) fun v22 h23 =>
 some (v22, h23)) (
 J 4 (fun j24 =>
 B1 (lens x15) fun v25 =>
 B1 (ige x17 v25) fun v26 =>
 j24 x15 x16 x17 v26 h19) (fun x27 x28 x29 x30 h31 =>
 CD x30 (
 some ((.int .i64 (-1)), h31)) (
 J 4 (fun j32 =>
 B1 (ld (.ptr 0 0) h31) fun v33 =>
 B1 (ile x29 v33) fun v34 =>
 G v34 true (fun k35 =>
 k35 x27 h31) (fun v36 h37 =>
 G v34 true (fun k38 =>
 B1 (lens v36) fun v39 =>
 k38 v39 h37) (fun v40 h41 =>
 G v34 true (fun k42 =>
 B1 (ile v40 (.int .i64 64)) fun v43 =>
 k42 v43 h41) (fun v44 h45 =>
 B1 (pk v34 v44 (.bool false)) fun v46 =>
 j32 x27 x28 x29 v46 h45) h41) h37) h31) (fun x47 x48 x49 x50 h51 =>
 CD x50 (
 B2 (cf (.func (.func 116) [] []) [x47, x48] h51) fun v52 h53 =>
 some (v52, h53)) (
 j1 x47 x48 x49 h51)))))))) (fun x54 x55 x56 h57 =>
 B1 (ixs x55 (.int .i64 0)) fun v58 =>
 B1 (ixs x55 (.int .i64 1)) fun v59 =>
 J 7 (fun j60 =>
 B1 (lens x54) fun v61 =>
 B1 (isub v61 x56) fun v62 =>
 B1 (iadd v62 (.int .i64 1)) fun v63 =>
 j60 x54 x55 x56 v58 v59 (.int .i64 0) v63 h57) (fun x64 x65 x66 x67 x68 x69 x70 h71 =>
 J 0 (fun j72 =>
 J 0 (fun j73 =>
 l_internal_stringslite_Index J G cf j73 x64 x65 x66 x67 x68 x69 x70 (.int .i64 0) h71) (fun  h272 =>
 j72  h272)) (fun  h273 =>
 some ((.int .i64 (-1)), h273))))

theorem e_internal_stringslite_Index (J : JT) (G : GT) (cf : CF) (a0 a1 : AV) (H : Hp) : callF P J G prim an cf 105 [a0, a1] H = s_internal_stringslite_Index J G cf a0 a1 H := by kernel_rfl

theorem c_internal_stringslite_Index {a0 a1 : AV} {H : Hp} {r : AV × Hp} (h : s_internal_stringslite_Index JN GO cK a0 a1 H = some r) : cK (.func (.func 105) [] []) [a0, a1] H = some r := callF_fix (first := []) (cap := []) ((e_internal_stringslite_Index JN GO _ a0 a1 H).trans h)

noncomputable def s_internal_stringslite_IndexByte (J : JT) (G : GT) (cf : CF) (a0 a1 : AV) (H : Hp) : R :=
 B2 (cf (.func (.func 138) [] []) [a0, a1] H) fun v0 h1 =>
 some (v0, h1)

theorem e_internal_stringslite_IndexByte (J : JT) (G : GT) (cf : CF) (a0 a1 : AV) (H : Hp) : callF P J G prim an cf 115 [a0, a1] H = s_internal_stringslite_IndexByte J G cf a0 a1 H := by kernel_rfl

theorem c_internal_stringslite_IndexByte {a0 a1 : AV} {H : Hp} {r : AV × Hp} (h : s_internal_stringslite_IndexByte JN GO cK a0 a1 H = some r) : cK (.func (.func 115) [] []) [a0, a1] H = some r := callF_fix (first := []) (cap := []) ((e_internal_stringslite_IndexByte JN GO _ a0 a1 H).trans h)

noncomputable def s_internal_stringslite_Cut (J : JT) (G : GT) (cf : CF) (a0 a1 : AV) (H : Hp) : R :=
 J 1 (fun j0 =>
 B2 (cf (.func (.func 105) [] []) [a0, a1] H) fun v1 h2 =>
 B1 (ige v1 (.int .i64 0)) fun v3 =>
 CD v3 (
 B1 (sls a0 none (some v1)) fun v4 =>
 B1 (lens a1) fun v5 =>
 B1 (iadd v1 v5) fun v6 =>
 B1 (sls a0 (some v6) none) fun v7 =>
 some (.tuple [v4, v7, (.bool true)], h2)) (
 j0 a0 h2)) (fun x8 h9 =>
 some (.tuple [x8, (.str []), (.bool false)], h9))

theorem e_internal_stringslite_Cut (J : JT) (G : GT) (cf : CF) (a0 a1 : AV) (H : Hp) : callF P J G prim an cf 93 [a0, a1] H = s_internal_stringslite_Cut J G cf a0 a1 H := by kernel_rfl

theorem c_internal_stringslite_Cut {a0 a1 : AV} {H : Hp} {r : AV × Hp} (h : s_internal_stringslite_Cut JN GO cK a0 a1 H = some r) : cK (.func (.func 93) [] []) [a0, a1] H = some r := callF_fix (first := []) (cap := []) ((e_internal_stringslite_Cut JN GO _ a0 a1 H).trans h)

noncomputable def s_strconv_Itoa (J : JT) (G : GT) (cf : CF) (a0 : AV) (H : Hp) : R :=
 B2 (cf (.func (.func 95) [] []) [a0] H) fun v0 h1 =>
 some (v0, h1)

theorem e_strconv_Itoa (J : JT) (G : GT) (cf : CF) (a0 : AV) (H : Hp) : callF P J G prim an cf 66 [a0] H = s_strconv_Itoa J G cf a0 H := by kernel_rfl

theorem c_strconv_Itoa {a0 : AV} {H : Hp} {r : AV × Hp} (h : s_strconv_Itoa JN GO cK a0 H = some r) : cK (.func (.func 66) [] []) [a0] H = some r := callF_fix (first := []) (cap := []) ((e_strconv_Itoa JN GO _ a0 H).trans h)

noncomputable def s_internal_strconv_Itoa (J : JT) (G : GT) (cf : CF) (a0 : AV) (H : Hp) : R :=
 B2 (cf (.func (.func 107) [] []) [a0, (.int .i64 10)] H) fun v0 h1 =>
 some (v0, h1)

theorem e_internal_strconv_Itoa (J : JT) (G : GT) (cf : CF) (a0 : AV) (H : Hp) : callF P J G prim an cf 95 [a0] H = s_internal_strconv_Itoa J G cf a0 H := by kernel_rfl

theorem c_internal_strconv_Itoa {a0 : AV} {H : Hp} {r : AV × Hp} (h : s_internal_strconv_Itoa JN GO cK a0 H = some r) : cK (.func (.func 95) [] []) [a0] H = some r := callF_fix (first := []) (cap := []) ((e_internal_strconv_Itoa JN GO _ a0 H).trans h)

noncomputable def s_internal_strconv_FormatInt (J : JT) (G : GT) (cf : CF) (a0 a1 : AV) (H : Hp) : R :=
 J 2 (fun j0 =>
 B1 (ieq a1 (.int .i64 10)) fun v1 =>
 CD v1 (
 J 1 (fun j2 =>
 J 2 (fun j3 =>
 B1 (ile (.int .i64 0) a0) fun v4 =>
 G v4 true (fun k5 =>
 k5 a0 H) (fun v6 h7 =>
 G v4 true (fun k8 =>
 B1 (ilt v6 (.int .i64 100)) fun v9 =>
 k8 v9 h7) (fun v10 h11 =>
 B1 (pk v4 v10 (.bool false)) fun v12 =>
 j3 a0 v12 h11) h7) H) (fun x13 x14 h15 =>
 CD x14 (
 B2 (cf (.func (.func 121) [] []) [x13] h15) fun v16 h17 =>
 some (v16, h17)) (
 j2 x13 h15))) (fun x18 h19 =>
 BN (newCells h19 [(.int .u8 0), (.int .u8 0), (.int .u8 0), (.int .u8 0), (.int .u8 0), (.int .u8 0), (.int .u8 0), (.int .u8 0), (.int .u8 0), (.int .u8 0), (.int .u8 0), (.int .u8 0), (.int .u8 0), (.int .u8 0), (.int .u8 0), (.int .u8 0), (.int .u8 0), (.int .u8 0), (.int .u8 0), (.int .u8 0), (.int .u8 0), (.int .u8 0), (.int .u8 0), (.int .u8 0)] 161 0) fun i20 h21 =>
 B1 (cv .u64 x18) fun v22 =>
 J 3 (fun j23 =>
 B1 (ilt x18 (.int .i64 0)) fun v24 =>
 CD v24 (
 B1 (unA .neg v22) fun v25 =>
 j23 x18 (.ptr i20 0) v25 h21) (
 j23 x18 (.ptr i20 0) v22 h21)) (fun x26 x27 x28 h29 =>
 B2 (cf (.func (.func 122) [] []) [x28] h29) fun v30 h31 =>
 J 3 (fun j32 =>
 B1 (iadd (.int .i64 1) v30) fun v33 =>
 B1 (sliceA P 161 x27 (some (.int .i64 1)) (some v33) none h31) fun v34 =>
 B2 (cf (.func (.func 123) [] []) [v34, x28] h31) fun v35 h36 =>
 j32 x26 x27 v30 h36) (fun x37 x38 x39 h40 =>
 J 2 (fun j41 =>
 B1 (ilt x37 (.int .i64 0)) fun v42 =>
 CD v42 (
 B1 (iar 24 1 x38 (.int .i64 0)) fun v43 =>
 B1 (st 1 v43 (.int .u8 45) h40) fun h44 =>
 B1 (iadd (.int .i64 1) x39) fun v45 =>
 B1 (sliceA P 161 x38 none (some v45) none h44) fun v46 =>
 B1 (b2s v46 h44) fun v47 =>
 some (v47, h44)) (
 j41 x38 x39 h40)) (fun x48 x49 h50 =>
 B1 (iadd (.int .i64 1) x49) fun v51 =>
 B1 (sliceA P 161 x48 (some (.int .i64 1)) (some v51) none h50) fun v52 =>
 B1 (b2s v52 h50) fun v53 =>
 some (v53, h50)))))) (
 j0 a0 a1 H)) (fun x54 x55 h56 =>
 J 1 (fun j57 =>
 B1 (cv .u64 x54) fun v58 =>
 B1 (ilt x54 (.int .i64 0)) fun v59 =>
 B2 (cf (.func (.func 124) [] []) [.slice0, v58, x55, v59, (.bool false)] h56) fun v60 h61 =>
 B1 (ex 0 v60) fun v62 =>
 B1 (ex 1 v60) fun v63 =>
 j57 v63 h61) (fun x64 h65 =>
 some (x64, h65)))

theorem e_internal_strconv_FormatInt (J : JT) (G : GT) (cf : CF) (a0 a1 : AV) (H : Hp) : callF P J G prim an cf 107 [a0, a1] H = s_internal_strconv_FormatInt J G cf a0 a1 H := by kernel_rfl

theorem c_internal_strconv_FormatInt {a0 a1 : AV} {H : Hp} {r : AV × Hp} (h : s_internal_strconv_FormatInt JN GO cK a0 a1 H = some r) : cK (.func (.func 107) [] []) [a0, a1] H = some r := callF_fix (first := []) (cap := []) ((e_internal_strconv_FormatInt JN GO _ a0 a1 H).trans h)

noncomputable def s_internal_strconv_small (J : JT) (G : GT) (cf : CF) (a0 : AV) (H : Hp) : R :=
 J 1 (fun j0 =>
 B1 (ilt a0 (.int .i64 10)) fun v1 =>
 CD v1 (
 B1 (iadd a0 (.int .i64 1)) fun v2 =>
 B1 (sls (.str [48, 49, 50, 51, 52, 53, 54, 55, 56, 57, 97, 98, 99, 100, 101, 102, 103, 104, 105, 106, 107, 108, 109, 110, 111, 112, 113, 114, 115, 116, 117, 118, 119, 120, 121, 122]) (some a0) (some v2)) fun v3 =>
 some (v3, H)) (
 j0 a0 H)) (fun x4 h5 =>
 B1 (imul x4 (.int .i64 2)) fun v6 =>
 B1 (imul x4 (.int .i64 2)) fun v7 =>
 B1 (iadd v7 (.int .i64 2)) fun v8 =>
 B1 (sls (.str [48, 48, 48, 49, 48, 50, 48, 51, 48, 52, 48, 53, 48, 54, 48, 55, 48, 56, 48, 57, 49, 48, 49, 49, 49, 50, 49, 51, 49, 52, 49, 53, 49, 54, 49, 55, 49, 56, 49, 57, 50, 48, 50, 49, 50, 50, 50, 51, 50, 52, 50, 53, 50, 54, 50, 55, 50, 56, 50, 57, 51, 48, 51, 49, 51, 50, 51, 51, 51, 52, 51, 53, 51, 54, 51, 55, 51, 56, 51, 57, 52, 48, 52, 49, 52, 50, 52, 51, 52, 52, 52, 53, 52, 54, 52, 55, 52, 56, 52, 57, 53, 48, 53, 49, 53, 50, 53, 51, 53, 52, 53, 53, 53, 54, 53, 55, 53, 56, 53, 57, 54, 48, 54, 49, 54, 50, 54, 51, 54, 52, 54, 53, 54, 54, 54, 55, 54, 56, 54, 57, 55, 48, 55, 49, 55, 50, 55, 51, 55, 52, 55, 53, 55, 54, 55, 55, 55, 56, 55, 57, 56, 48, 56, 49, 56, 50, 56, 51, 56, 52, 56, 53, 56, 54, 56, 55, 56, 56, 56, 57, 57, 48, 57, 49, 57, 50, 57, 51, 57, 52, 57, 53, 57, 54, 57, 55, 57, 56, 57, 57]) (some v6) (some v8)) fun v9 =>
 some (v9, h5))

theorem e_internal_strconv_small (J : JT) (G : GT) (cf : CF) (a0 : AV) (H : Hp) : callF P J G prim an cf 121 [a0] H = s_internal_strconv_small J G cf a0 H := by kernel_rfl

theorem c_internal_strconv_small {a0 : AV} {H : Hp} {r : AV × Hp} (h : s_internal_strconv_small JN GO cK a0 H = some r) : cK (.func (.func 121) [] []) [a0] H = some r := callF_fix (first := []) (cap := []) ((e_internal_strconv_small JN GO _ a0 H).trans h)

noncomputable def s_internal_strconv_numDigits (J : JT) (G : GT) (cf : CF) (a0 : AV) (H : Hp) : R :=
 B2 (cf (.func (.func 135) [] []) [a0] H) fun v0 h1 =>
 B2 (cf (.func (.func 145) [] []) [v0] h1) fun v2 h3 =>
 B1 (iar 20 1 (.ptr 3 0) v2) fun v4 =>
 B1 (ld v4 h3) fun v5 =>
 B1 (ige a0 v5) fun v6 =>
 B2 (cf (.func (.func 146) [] []) [v6] h3) fun v7 h8 =>
 B1 (iadd v2 v7) fun v9 =>
 some (v9, h8)

theorem e_internal_strconv_numDigits (J : JT) (G : GT) (cf : CF) (a0 : AV) (H : Hp) : callF P J G prim an cf 122 [a0] H = s_internal_strconv_numDigits J G cf a0 H := by kernel_rfl

theorem c_internal_strconv_numDigits {a0 : AV} {H : Hp} {r : AV × Hp} (h : s_internal_strconv_numDigits JN GO cK a0 H = some r) : cK (.func (.func 122) [] []) [a0] H = some r := callF_fix (first := []) (cap := []) ((e_internal_strconv_numDigits JN GO _ a0 H).trans h)

noncomputable def s_internal_strconv_log10Pow2 (J : JT) (G : GT) (cf : CF) (a0 : AV) (H : Hp) : R :=
 B1 (imul a0 (.int .i64 78913)) fun v0 =>
 B1 (ishr v0 (.int .u64 18)) fun v1 =>
 some (v1, H)

theorem e_internal_strconv_log10Pow2 (J : JT) (G : GT) (cf : CF) (a0 : AV) (H : Hp) : callF P J G prim an cf 145 [a0] H = s_internal_strconv_log10Pow2 J G cf a0 H := by kernel_rfl

theorem c_internal_strconv_log10Pow2 {a0 : AV} {H : Hp} {r : AV × Hp} (h : s_internal_strconv_log10Pow2 JN GO cK a0 H = some r) : cK (.func (.func 145) [] []) [a0] H = some r := callF_fix (first := []) (cap := []) ((e_internal_strconv_log10Pow2 JN GO _ a0 H).trans h)

noncomputable def s_internal_strconv_bool2_int_ (J : JT) (G : GT) (cf : CF) (a0 : AV) (H : Hp) : R :=
 CD a0 (
 some ((.int .i64 1), H)) (
 some ((.int .i64 0), H))

theorem e_internal_strconv_bool2_int_ (J : JT) (G : GT) (cf : CF) (a0 : AV) (H : Hp) : callF P J G prim an cf 146 [a0] H = s_internal_strconv_bool2_int_ J G cf a0 H := by kernel_rfl

theorem c_internal_strconv_bool2_int_ {a0 : AV} {H : Hp} {r : AV × Hp} (h : s_internal_strconv_bool2_int_ JN GO cK a0 H = some r) : cK (.func (.func 146) [] []) [a0] H = some r := callF_fix (first := []) (cap := []) ((e_internal_strconv_bool2_int_ JN GO _ a0 H).trans h)

noncomputable def bl_slices_Index___string_string_ (J : JT) (G : GT) (cf : CF) (j2 : K.Fn 0) (j3 : K.Fn 4) (x4 x5 x6 x7 : AV) (h8 : Hp) : R :=
 B1 (ilt x7 x6) fun v9 =>
 CD v9 (
 J 4 (fun j10 =>
 J 6 (fun j11 =>
 B1 (ia 1 x4 x7) fun v12 =>
 B1 (ld v12 h8) fun v13 =>
 B1 (seq x5 v13) fun v14 =>
 j11 x4 x5 x7 x6 x7 v14 h8) (fun x15 x16 x17 x18 x19 x20 h21 =>
 CD x20 (
 some (x17, h21)) (
 j10 x15 x16 x18 x19 h21))) (fun x22 x23 x24 x25 h26 =>
 B1 (iadd x25 (.int .i64 1)) fun v27 =>
 j3 x22 x23 x24 v27 h26)) (
 j2  h8)

noncomputable def l_slices_Index___string_string_ (J : JT) (G : GT) (cf : CF) (j2 : K.Fn 0) : K.Fn 4 := lpF P an J G cf 64 [1, 0, 1, 0, 0] [0, 1, 7, 8] (fun q t H => match Nat.beq q 0 with | true => app 0 j2 (vals [] t) H | false => (fun _ _ _ => none) q t H)

theorem rl_slices_Index___string_string_ (J : JT) (G : GT) (cf : CF) (j2 : K.Fn 0) (j3 : K.Fn 4) (x4 x5 x6 x7 : AV) (h8 : Hp) : lpB P an J G cf 64 [1, 0, 1, 0, 0] [0, 1, 7, 8] (fun q t H => match Nat.beq q 0 with | true => app 0 j2 (vals [] t) H | false => (fun _ _ _ => none) q t H) j3 [x4, x5, x6, x7] h8 = bl_slices_Index___string_string_ J G cf j2 j3 x4 x5 x6 x7 h8 := by kernel_rfl

theorem ql_slices_Index___string_string_ (cf : CF) (j2 : K.Fn 0) (x4 x5 x6 x7 : AV) (h8 : Hp) : l_slices_Index___string_string_ JN GO cf j2 x4 x5 x6 x7 h8 = bl_slices_Index___string_string_ JN GO cf j2 (l_slices_Index___string_string_ JN GO cf j2) x4 x5 x6 x7 h8 := Eq.trans (b := app 4 (l_slices_Index___string_string_ JN GO cf j2) [x4, x5, x6, x7] h8) (by kernel_rfl) ((lpQ cf _ _ _ _ [x4, x5, x6, x7] rfl h8).trans (rl_slices_Index___string_string_ JN GO cf j2 _ x4 x5 x6 x7 h8))

noncomputable def s_slices_Index___string_string_ (J : JT) (G : GT) (cf : CF) (a0 a1 : AV) (H : Hp) : R :=
 J 0 (fun j0 =>
 B1 (lenx a0) fun v1 =>
 J 0 (fun j2 =>
 l_slices_Index___string_string_ J G cf j2 a0 a1 v1 (.int .i64 0) H) (fun  h28 =>
 j0  h28)) (fun  h29 =>
 some ((.int .i64 (-1)), h29))

theorem e_slices_Index___string_string_ (J : JT) (G : GT) (cf : CF) (a0 a1 : AV) (H : Hp) : callF P J G prim an cf 64 [a0, a1] H = s_slices_Index___string_string_ J G cf a0 a1 H := by kernel_rfl

theorem c_slices_Index___string_string_ {a0 a1 : AV} {H : Hp} {r : AV × Hp} (h : s_slices_Index___string_string_ JN GO cK a0 a1 H = some r) : cK (.func (.func 64) [] []) [a0, a1] H = some r := callF_fix (first := []) (cap := []) ((e_slices_Index___string_string_ JN GO _ a0 a1 H).trans h)

noncomputable def s_slices_Contains___string_string_ (J : JT) (G : GT) (cf : CF) (a0 a1 : AV) (H : Hp) : R :=
 B2 (cf (.func (.func 64) [] []) [a0, a1] H) fun v0 h1 =>
 B1 (ige v0 (.int .i64 0)) fun v2 =>
 some (v2, h1)

theorem e_slices_Contains___string_string_ (J : JT) (G : GT) (cf : CF) (a0 a1 : AV) (H : Hp) : callF P J G prim an cf 58 [a0, a1] H = s_slices_Contains___string_string_ J G cf a0 a1 H := by kernel_rfl

theorem c_slices_Contains___string_string_ {a0 a1 : AV} {H : Hp} {r : AV × Hp} (h : s_slices_Contains___string_string_ JN GO cK a0 a1 H = some r) : cK (.func (.func 58) [] []) [a0, a1] H = some r := callF_fix (first := []) (cap := []) ((e_slices_Contains___string_string_ JN GO _ a0 a1 H).trans h)

noncomputable def bl_slices_Index___graph_Edge_graph_Edge_ (J : JT) (G : GT) (cf : CF) (j4 : K.Fn 0) (j5 : K.Fn 4) (x6 x7 x8 x9 : AV) (h10 : Hp) : R :=
 B1 (ilt x9 x8) fun v11 =>
 CD v11 (
 J 4 (fun j12 =>
 J 6 (fun j13 =>
 B1 (lda 2 x7 h10) fun v14 =>
 B1 (ia 2 x6 x9) fun v15 =>
 B1 (lda 2 v15 h10) fun v16 =>
 IFT (gA P .eql 83 false v14 v16) <| B1 (binA P .eql 83 v14 v16 h10) fun v17 =>
 j13 x6 x7 x9 x8 x9 v17 h10) (fun x18 x19 x20 x21 x22 x23 h24 =>
 CD x23 (
 some (x20, h24)) (
 j12 x18 x19 x21 x22 h24))) (fun x25 x26 x27 x28 h29 =>
 B1 (iadd x28 (.int .i64 1)) fun v30 =>
 j5 x25 x26 x27 v30 h29)) (
 j4  h10)

noncomputable def l_slices_Index___graph_Edge_graph_Edge_ (J : JT) (G : GT) (cf : CF) (j4 : K.Fn 0) : K.Fn 4 := lpF P an J G cf 72 [1, 0, 1, 0, 0] [0, 3, 7, 8] (fun q t H => match Nat.beq q 0 with | true => app 0 j4 (vals [] t) H | false => (fun _ _ _ => none) q t H)

theorem rl_slices_Index___graph_Edge_graph_Edge_ (J : JT) (G : GT) (cf : CF) (j4 : K.Fn 0) (j5 : K.Fn 4) (x6 x7 x8 x9 : AV) (h10 : Hp) : lpB P an J G cf 72 [1, 0, 1, 0, 0] [0, 3, 7, 8] (fun q t H => match Nat.beq q 0 with | true => app 0 j4 (vals [] t) H | false => (fun _ _ _ => none) q t H) j5 [x6, x7, x8, x9] h10 = bl_slices_Index___graph_Edge_graph_Edge_ J G cf j4 j5 x6 x7 x8 x9 h10 := by kernel_rfl

theorem ql_slices_Index___graph_Edge_graph_Edge_ (cf : CF) (j4 : K.Fn 0) (x6 x7 x8 x9 : AV) (h10 : Hp) : l_slices_Index___graph_Edge_graph_Edge_ JN GO cf j4 x6 x7 x8 x9 h10 = bl_slices_Index___graph_Edge_graph_Edge_ JN GO cf j4 (l_slices_Index___graph_Edge_graph_Edge_ JN GO cf j4) x6 x7 x8 x9 h10 := Eq.trans (b := app 4 (l_slices_Index___graph_Edge_graph_Edge_ JN GO cf j4) [x6, x7, x8, x9] h10) (by kernel_rfl) ((lpQ cf _ _ _ _ [x6, x7, x8, x9] rfl h10).trans (rl_slices_Index___graph_Edge_graph_Edge_ JN GO cf j4 _ x6 x7 x8 x9 h10))

noncomputable def s_slices_Index___graph_Edge_graph_Edge_ (J : JT) (G : GT) (cf : CF) (a0 a1 : AV) (H : Hp) : R :=
 BN (bx 83 a1 H) fun i0 h1 =>
 J 0 (fun j2 =>
 B1 (lenx a0) fun v3 =>
 J 0 (fun j4 =>
 l_slices_Index___graph_Edge_graph_Edge_ J G cf j4 a0 (.ptr i0 0) v3 (.int .i64 0) h1) (fun  h31 =>
 j2  h31)) (fun  h32 =>
 some ((.int .i64 (-1)), h32))

theorem e_slices_Index___graph_Edge_graph_Edge_ (J : JT) (G : GT) (cf : CF) (a0 a1 : AV) (H : Hp) : callF P J G prim an cf 72 [a0, a1] H = s_slices_Index___graph_Edge_graph_Edge_ J G cf a0 a1 H := by kernel_rfl

theorem c_slices_Index___graph_Edge_graph_Edge_ {a0 a1 : AV} {H : Hp} {r : AV × Hp} (h : s_slices_Index___graph_Edge_graph_Edge_ JN GO cK a0 a1 H = some r) : cK (.func (.func 72) [] []) [a0, a1] H = some r := callF_fix (first := []) (cap := []) ((e_slices_Index___graph_Edge_graph_Edge_ JN GO _ a0 a1 H).trans h)

noncomputable def s_slices_Contains___graph_Edge_graph_Edge_ (J : JT) (G : GT) (cf : CF) (a0 a1 : AV) (H : Hp) : R :=
 BN (bx 83 a1 H) fun i0 h1 =>
 B1 (lda 2 (.ptr i0 0) h1) fun v2 =>
 B2 (cf (.func (.func 72) [] []) [a0, v2] h1) fun v3 h4 =>
 B1 (ige v3 (.int .i64 0)) fun v5 =>
 some (v5, h4)

theorem e_slices_Contains___graph_Edge_graph_Edge_ (J : JT) (G : GT) (cf : CF) (a0 a1 : AV) (H : Hp) : callF P J G prim an cf 42 [a0, a1] H = s_slices_Contains___graph_Edge_graph_Edge_ J G cf a0 a1 H := by kernel_rfl

theorem c_slices_Contains___graph_Edge_graph_Edge_ {a0 a1 : AV} {H : Hp} {r : AV × Hp} (h : s_slices_Contains___graph_Edge_graph_Edge_ JN GO cK a0 a1 H = some r) : cK (.func (.func 42) [] []) [a0, a1] H = some r := callF_fix (first := []) (cap := []) ((e_slices_Contains___graph_Edge_graph_Edge_ JN GO _ a0 a1 H).trans h)

noncomputable def s_slices_ContainsFunc___int_int_ (J : JT) (G : GT) (cf : CF) (a0 a1 : AV) (H : Hp) : R :=
 B2 (cf (.func (.func 79) [] []) [a0, a1] H) fun v0 h1 =>
 B1 (ige v0 (.int .i64 0)) fun v2 =>
 some (v2, h1)

theorem e_slices_ContainsFunc___int_int_ (J : JT) (G : GT) (cf : CF) (a0 a1 : AV) (H : Hp) : callF P J G prim an cf 48 [a0, a1] H = s_slices_ContainsFunc___int_int_ J G cf a0 a1 H := by kernel_rfl

theorem c_slices_ContainsFunc___int_int_ {a0 a1 : AV} {H : Hp} {r : AV × Hp} (h : s_slices_ContainsFunc___int_int_ JN GO cK a0 a1 H = some r) : cK (.func (.func 48) [] []) [a0, a1] H = some r := callF_fix (first := []) (cap := []) ((e_slices_ContainsFunc___int_int_ JN GO _ a0 a1 H).trans h)

noncomputable def bl_slices_IndexFunc___int_int_ (J : JT) (G : GT) (cf : CF) (j2 : K.Fn 0) (j3 : K.Fn 4) (x4 x5 x6 x7 : AV) (h8 : Hp) : R :=
 B1 (ilt x7 x6) fun v9 =>
 CD v9 (
 J 4 (fun j10 =>
 J 6 (fun j11 =>
 B1 (ia 1 x4 x7) fun v12 =>
 B1 (ld v12 h8) fun v13 =>
 B2 (cf x5 [v13] h8) fun v14 h15 =>
 j11 x4 x5 x7 x6 x7 v14 h15) (fun x16 x17 x18 x19 x20 x21 h22 =>
 CD x21 (
 some (x18, h22)) (
 j10 x16 x17 x19 x20 h22))) (fun x23 x24 x25 x26 h27 =>
 B1 (iadd x26 (.int .i64 1)) fun v28 =>
 j3 x23 x24 x25 v28 h27)) (
 j2  h8)

noncomputable def l_slices_IndexFunc___int_int_ (J : JT) (G : GT) (cf : CF) (j2 : K.Fn 0) : K.Fn 4 := lpF P an J G cf 79 [1, 0, 1, 0, 0] [0, 1, 7, 8] (fun q t H => match Nat.beq q 0 with | true => app 0 j2 (vals [] t) H | false => (fun _ _ _ => none) q t H)

theorem rl_slices_IndexFunc___int_int_ (J : JT) (G : GT) (cf : CF) (j2 : K.Fn 0) (j3 : K.Fn 4) (x4 x5 x6 x7 : AV) (h8 : Hp) : lpB P an J G cf 79 [1, 0, 1, 0, 0] [0, 1, 7, 8] (fun q t H => match Nat.beq q 0 with | true => app 0 j2 (vals [] t) H | false => (fun _ _ _ => none) q t H) j3 [x4, x5, x6, x7] h8 = bl_slices_IndexFunc___int_int_ J G cf j2 j3 x4 x5 x6 x7 h8 := by kernel_rfl

theorem ql_slices_IndexFunc___int_int_ (cf : CF) (j2 : K.Fn 0) (x4 x5 x6 x7 : AV) (h8 : Hp) : l_slices_IndexFunc___int_int_ JN GO cf j2 x4 x5 x6 x7 h8 = bl_slices_IndexFunc___int_int_ JN GO cf j2 (l_slices_IndexFunc___int_int_ JN GO cf j2) x4 x5 x6 x7 h8 := Eq.trans (b := app 4 (l_slices_IndexFunc___int_int_ JN GO cf j2) [x4, x5, x6, x7] h8) (by kernel_rfl) ((lpQ cf _ _ _ _ [x4, x5, x6, x7] rfl h8).trans (rl_slices_IndexFunc___int_int_ JN GO cf j2 _ x4 x5 x6 x7 h8))

noncomputable def s_slices_IndexFunc___int_int_ (J : JT) (G : GT) (cf : CF) (a0 a1 : AV) (H : Hp) : R :=
 J 0 (fun j0 =>
 B1 (lenx a0) fun v1 =>
 J 0 (fun j2 =>
 l_slices_IndexFunc___int_int_ J G cf j2 a0 a1 v1 (.int .i64 0) H) (fun  h29 =>
 j0  h29)) (fun  h30 =>
 some ((.int .i64 (-1)), h30))

theorem e_slices_IndexFunc___int_int_ (J : JT) (G : GT) (cf : CF) (a0 a1 : AV) (H : Hp) : callF P J G prim an cf 79 [a0, a1] H = s_slices_IndexFunc___int_int_ J G cf a0 a1 H := by kernel_rfl

theorem c_slices_IndexFunc___int_int_ {a0 a1 : AV} {H : Hp} {r : AV × Hp} (h : s_slices_IndexFunc___int_int_ JN GO cK a0 a1 H = some r) : cK (.func (.func 79) [] []) [a0, a1] H = some r := callF_fix (first := []) (cap := []) ((e_slices_IndexFunc___int_int_ JN GO _ a0 a1 H).trans h)

noncomputable def bl_slices_Index___int_int_ (J : JT) (G : GT) (cf : CF) (j2 : K.Fn 0) (j3 : K.Fn 4) (x4 x5 x6 x7 : AV) (h8 : Hp) : R :=
 B1 (ilt x7 x6) fun v9 =>
 CD v9 (
 J 4 (fun j10 =>
 J 6 (fun j11 =>
 B1 (ia 1 x4 x7) fun v12 =>
 B1 (ld v12 h8) fun v13 =>
 B1 (ieq x5 v13) fun v14 =>
 j11 x4 x5 x7 x6 x7 v14 h8) (fun x15 x16 x17 x18 x19 x20 h21 =>
 CD x20 (
 some (x17, h21)) (
 j10 x15 x16 x18 x19 h21))) (fun x22 x23 x24 x25 h26 =>
 B1 (iadd x25 (.int .i64 1)) fun v27 =>
 j3 x22 x23 x24 v27 h26)) (
 j2  h8)

noncomputable def l_slices_Index___int_int_ (J : JT) (G : GT) (cf : CF) (j2 : K.Fn 0) : K.Fn 4 := lpF P an J G cf 80 [1, 0, 1, 0, 0] [0, 1, 7, 8] (fun q t H => match Nat.beq q 0 with | true => app 0 j2 (vals [] t) H | false => (fun _ _ _ => none) q t H)

theorem rl_slices_Index___int_int_ (J : JT) (G : GT) (cf : CF) (j2 : K.Fn 0) (j3 : K.Fn 4) (x4 x5 x6 x7 : AV) (h8 : Hp) : lpB P an J G cf 80 [1, 0, 1, 0, 0] [0, 1, 7, 8] (fun q t H => match Nat.beq q 0 with | true => app 0 j2 (vals [] t) H | false => (fun _ _ _ => none) q t H) j3 [x4, x5, x6, x7] h8 = bl_slices_Index___int_int_ J G cf j2 j3 x4 x5 x6 x7 h8 := by kernel_rfl

theorem ql_slices_Index___int_int_ (cf : CF) (j2 : K.Fn 0) (x4 x5 x6 x7 : AV) (h8 : Hp) : l_slices_Index___int_int_ JN GO cf j2 x4 x5 x6 x7 h8 = bl_slices_Index___int_int_ JN GO cf j2 (l_slices_Index___int_int_ JN GO cf j2) x4 x5 x6 x7 h8 := Eq.trans (b := app 4 (l_slices_Index___int_int_ JN GO cf j2) [x4, x5, x6, x7] h8) (by kernel_rfl) ((lpQ cf _ _ _ _ [x4, x5, x6, x7] rfl h8).trans (rl_slices_Index___int_int_ JN GO cf j2 _ x4 x5 x6 x7 h8))

noncomputable def s_slices_Index___int_int_ (J : JT) (G : GT) (cf : CF) (a0 a1 : AV) (H : Hp) : R :=
 J 0 (fun j0 =>
 B1 (lenx a0) fun v1 =>
 J 0 (fun j2 =>
 l_slices_Index___int_int_ J G cf j2 a0 a1 v1 (.int .i64 0) H) (fun  h28 =>
 j0  h28)) (fun  h29 =>
 some ((.int .i64 (-1)), h29))

theorem e_slices_Index___int_int_ (J : JT) (G : GT) (cf : CF) (a0 a1 : AV) (H : Hp) : callF P J G prim an cf 80 [a0, a1] H = s_slices_Index___int_int_ J G cf a0 a1 H := by kernel_rfl

theorem c_slices_Index___int_int_ {a0 a1 : AV} {H : Hp} {r : AV × Hp} (h : s_slices_Index___int_int_ JN GO cK a0 a1 H = some r) : cK (.func (.func 80) [] []) [a0, a1] H = some r := callF_fix (first := []) (cap := []) ((e_slices_Index___int_int_ JN GO _ a0 a1 H).trans h)

noncomputable def s_slices_Contains___int_int_ (J : JT) (G : GT) (cf : CF) (a0 a1 : AV) (H : Hp) : R :=
 B2 (cf (.func (.func 80) [] []) [a0, a1] H) fun v0 h1 =>
 B1 (ige v0 (.int .i64 0)) fun v2 =>
 some (v2, h1)

theorem e_slices_Contains___int_int_ (J : JT) (G : GT) (cf : CF) (a0 a1 : AV) (H : Hp) : callF P J G prim an cf 51 [a0, a1] H = s_slices_Contains___int_int_ J G cf a0 a1 H := by kernel_rfl

theorem c_slices_Contains___int_int_ {a0 a1 : AV} {H : Hp} {r : AV × Hp} (h : s_slices_Contains___int_int_ JN GO cK a0 a1 H = some r) : cK (.func (.func 51) [] []) [a0, a1] H = some r := callF_fix (first := []) (cap := []) ((e_slices_Contains___int_int_ JN GO _ a0 a1 H).trans h)

noncomputable def s_slices_ContainsFunc___def_Task_def_Task_ (J : JT) (G : GT) (cf : CF) (a0 a1 : AV) (H : Hp) : R :=
 B2 (cf (.func (.func 82) [] []) [a0, a1] H) fun v0 h1 =>
 B1 (ige v0 (.int .i64 0)) fun v2 =>
 some (v2, h1)

theorem e_slices_ContainsFunc___def_Task_def_Task_ (J : JT) (G : GT) (cf : CF) (a0 a1 : AV) (H : Hp) : callF P J G prim an cf 59 [a0, a1] H = s_slices_ContainsFunc___def_Task_def_Task_ J G cf a0 a1 H := by kernel_rfl

theorem c_slices_ContainsFunc___def_Task_def_Task_ {a0 a1 : AV} {H : Hp} {r : AV × Hp} (h : s_slices_ContainsFunc___def_Task_def_Task_ JN GO cK a0 a1 H = some r) : cK (.func (.func 59) [] []) [a0, a1] H = some r := callF_fix (first := []) (cap := []) ((e_slices_ContainsFunc___def_Task_def_Task_ JN GO _ a0 a1 H).trans h)

noncomputable def bl_slices_IndexFunc___def_Task_def_Task_ (J : JT) (G : GT) (cf : CF) (j2 : K.Fn 0) (j3 : K.Fn 4) (x4 x5 x6 x7 : AV) (h8 : Hp) : R :=
 B1 (ilt x7 x6) fun v9 =>
 CD v9 (
 J 4 (fun j10 =>
 J 6 (fun j11 =>
 B1 (ia 6 x4 x7) fun v12 =>
 B1 (lda 6 v12 h8) fun v13 =>
 B2 (cf x5 [v13] h8) fun v14 h15 =>
 j11 x4 x5 x7 x6 x7 v14 h15) (fun x16 x17 x18 x19 x20 x21 h22 =>
 CD x21 (
 some (x18, h22)) (
 j10 x16 x17 x19 x20 h22))) (fun x23 x24 x25 x26 h27 =>
 B1 (iadd x26 (.int .i64 1)) fun v28 =>
 j3 x23 x24 x25 v28 h27)) (
 j2  h8)

noncomputable def l_slices_IndexFunc___def_Task_def_Task_ (J : JT) (G : GT) (cf : CF) (j2 : K.Fn 0) : K.Fn 4 := lpF P an J G cf 82 [1, 0, 1, 0, 0] [0, 1, 7, 8] (fun q t H => match Nat.beq q 0 with | true => app 0 j2 (vals [] t) H | false => (fun _ _ _ => none) q t H)

theorem rl_slices_IndexFunc___def_Task_def_Task_ (J : JT) (G : GT) (cf : CF) (j2 : K.Fn 0) (j3 : K.Fn 4) (x4 x5 x6 x7 : AV) (h8 : Hp) : lpB P an J G cf 82 [1, 0, 1, 0, 0] [0, 1, 7, 8] (fun q t H => match Nat.beq q 0 with | true => app 0 j2 (vals [] t) H | false => (fun _ _ _ => none) q t H) j3 [x4, x5, x6, x7] h8 = bl_slices_IndexFunc___def_Task_def_Task_ J G cf j2 j3 x4 x5 x6 x7 h8 := by kernel_rfl

theorem ql_slices_IndexFunc___def_Task_def_Task_ (cf : CF) (j2 : K.Fn 0) (x4 x5 x6 x7 : AV) (h8 : Hp) : l_slices_IndexFunc___def_Task_def_Task_ JN GO cf j2 x4 x5 x6 x7 h8 = bl_slices_IndexFunc___def_Task_def_Task_ JN GO cf j2 (l_slices_IndexFunc___def_Task_def_Task_ JN GO cf j2) x4 x5 x6 x7 h8 := Eq.trans (b := app 4 (l_slices_IndexFunc___def_Task_def_Task_ JN GO cf j2) [x4, x5, x6, x7] h8) (by kernel_rfl) ((lpQ cf _ _ _ _ [x4, x5, x6, x7] rfl h8).trans (rl_slices_IndexFunc___def_Task_def_Task_ JN GO cf j2 _ x4 x5 x6 x7 h8))

noncomputable def s_slices_IndexFunc___def_Task_def_Task_ (J : JT) (G : GT) (cf : CF) (a0 a1 : AV) (H : Hp) : R :=
 J 0 (fun j0 =>
 B1 (lenx a0) fun v1 =>
 J 0 (fun j2 =>
 l_slices_IndexFunc___def_Task_def_Task_ J G cf j2 a0 a1 v1 (.int .i64 0) H) (fun  h29 =>
 j0  h29)) (fun  h30 =>
 some ((.int .i64 (-1)), h30))

theorem e_slices_IndexFunc___def_Task_def_Task_ (J : JT) (G : GT) (cf : CF) (a0 a1 : AV) (H : Hp) : callF P J G prim an cf 82 [a0, a1] H = s_slices_IndexFunc___def_Task_def_Task_ J G cf a0 a1 H := by kernel_rfl

theorem c_slices_IndexFunc___def_Task_def_Task_ {a0 a1 : AV} {H : Hp} {r : AV × Hp} (h : s_slices_IndexFunc___def_Task_def_Task_ JN GO cK a0 a1 H = some r) : cK (.func (.func 82) [] []) [a0, a1] H = some r := callF_fix (first := []) (cap := []) ((e_slices_IndexFunc___def_Task_def_Task_ JN GO _ a0 a1 H).trans h)

noncomputable def s_slices_Clone___def_Task_def_Task_ (J : JT) (G : GT) (cf : CF) (a0 : AV) (H : Hp) : R :=
 IFT (gA P .eql 23 true a0 .slice0) <| B1 (binA P .eql 23 a0 .slice0 H) fun v0 =>
 CD v0 (
 some (.slice0, H)) (
 B1 (fl [] []) fun l1 =>
 BN (newCells H l1 43 0) fun i2 h3 =>
 B2 (app' 43 6 [(.str []), .slice0, (.int .i64 0), (.int .i64 0), (.int .i64 0), (.str [])] false (.slice i2 0 0 0 true 6) a0 h3) fun v4 h5 =>
 some (v4, h5))

theorem e_slices_Clone___def_Task_def_Task_ (J : JT) (G : GT) (cf : CF) (a0 : AV) (H : Hp) : callF P J G prim an cf 74 [a0] H = s_slices_Clone___def_Task_def_Task_ J G cf a0 H := by kernel_rfl

theorem c_slices_Clone___def_Task_def_Task_ {a0 : AV} {H : Hp} {r : AV × Hp} (h : s_slices_Clone___def_Task_def_Task_ JN GO cK a0 H = some r) : cK (.func (.func 74) [] []) [a0] H = some r := callF_fix (first := []) (cap := []) ((e_slices_Clone___def_Task_def_Task_ JN GO _ a0 H).trans h)

noncomputable def s_slices_Clone___int_int_ (J : JT) (G : GT) (cf : CF) (a0 : AV) (H : Hp) : R :=
 IFT (gA P .eql 35 true a0 .slice0) <| B1 (binA P .eql 35 a0 .slice0 H) fun v0 =>
 CD v0 (
 some (.slice0, H)) (
 B1 (fl [] []) fun l1 =>
 BN (newCells H l1 3 0) fun i2 h3 =>
 B2 (app' 3 1 [(.int .i64 0)] false (.slice i2 0 0 0 true 1) a0 h3) fun v4 h5 =>
 some (v4, h5))

theorem e_slices_Clone___int_int_ (J : JT) (G : GT) (cf : CF) (a0 : AV) (H : Hp) : callF P J G prim an cf 75 [a0] H = s_slices_Clone___int_int_ J G cf a0 H := by kernel_rfl

theorem c_slices_Clone___int_int_ {a0 : AV} {H : Hp} {r : AV × Hp} (h : s_slices_Clone___int_int_ JN GO cK a0 H = some r) : cK (.func (.func 75) [] []) [a0] H = some r := callF_fix (first := []) (cap := []) ((e_slices_Clone___int_int_ JN GO _ a0 H).trans h)

noncomputable def s_slices_Clone___run_Task_run_Task_ (J : JT) (G : GT) (cf : CF) (a0 : AV) (H : Hp) : R :=
 IFT (gA P .eql 44 true a0 .slice0) <| B1 (binA P .eql 44 a0 .slice0 H) fun v0 =>
 CD v0 (
 some (.slice0, H)) (
 B1 (fl [] []) fun l1 =>
 BN (newCells H l1 51 0) fun i2 h3 =>
 B2 (app' 51 4 [(.int .i64 0), (.int .i64 0), (.int .i64 0), (.str [])] false (.slice i2 0 0 0 true 4) a0 h3) fun v4 h5 =>
 some (v4, h5))

theorem e_slices_Clone___run_Task_run_Task_ (J : JT) (G : GT) (cf : CF) (a0 : AV) (H : Hp) : callF P J G prim an cf 76 [a0] H = s_slices_Clone___run_Task_run_Task_ J G cf a0 H := by kernel_rfl

theorem c_slices_Clone___run_Task_run_Task_ {a0 : AV} {H : Hp} {r : AV × Hp} (h : s_slices_Clone___run_Task_run_Task_ JN GO cK a0 H = some r) : cK (.func (.func 76) [] []) [a0] H = some r := callF_fix (first := []) (cap := []) ((e_slices_Clone___run_Task_run_Task_ JN GO _ a0 H).trans h)

noncomputable def s_slices_Clone___string_string_ (J : JT) (G : GT) (cf : CF) (a0 : AV) (H : Hp) : R :=
 IFT (gA P .eql 45 true a0 .slice0) <| B1 (binA P .eql 45 a0 .slice0 H) fun v0 =>
 CD v0 (
 some (.slice0, H)) (
 B1 (fl [] []) fun l1 =>
 BN (newCells H l1 9 0) fun i2 h3 =>
 B2 (app' 9 1 [(.str [])] false (.slice i2 0 0 0 true 1) a0 h3) fun v4 h5 =>
 some (v4, h5))

theorem e_slices_Clone___string_string_ (J : JT) (G : GT) (cf : CF) (a0 : AV) (H : Hp) : callF P J G prim an cf 77 [a0] H = s_slices_Clone___string_string_ J G cf a0 H := by kernel_rfl

theorem c_slices_Clone___string_string_ {a0 : AV} {H : Hp} {r : AV × Hp} (h : s_slices_Clone___string_string_ JN GO cK a0 H = some r) : cK (.func (.func 77) [] []) [a0] H = some r := callF_fix (first := []) (cap := []) ((e_slices_Clone___string_string_ JN GO _ a0 H).trans h)

noncomputable def bl_graph_Good (J : JT) (G : GT) (cf : CF) (j31 : K.Fn 0) (j32 : K.Fn 5) (x33 x34 x35 x36 x37 : AV) (h38 : Hp) : R :=
 B1 (ilt x37 x36) fun v39 =>
 CD v39 (
 J 5 (fun j40 =>
 B1 (ia 2 x35 x37) fun v41 =>
 B1 (lda 2 v41 h38) fun v42 =>
 BN (newCells h38 [(.int .i64 0), (.int .i64 0)] 83 0) fun i43 h44 =>
 B1 (st 2 (.ptr i43 0) v42 h44) fun h45 =>
 J 6 (fun j46 =>
 J 7 (fun j47 =>
 B1 (lda 2 x33 h45) fun v48 =>
 B1 (iar 2 1 (.ptr i43 0) (.int .i64 0)) fun v49 =>
 B1 (ld v49 h45) fun v50 =>
 B2 (cf (.func (.func 70) [] []) [v48, v50] h45) fun v51 h52 =>
 B1 (unA .not v51) fun v53 =>
 G v53 false (fun k54 =>
 B1 (lda 2 x33 h52) fun v55 =>
 k54 v55 h52) (fun v56 h57 =>
 G v53 false (fun k58 =>
 B1 (iar 2 1 (.ptr i43 0) (.int .i64 1)) fun v59 =>
 k58 v59 h57) (fun v60 h61 =>
 G v53 false (fun k62 =>
 B1 (ld v60 h61) fun v63 =>
 k62 v63 h61) (fun v64 h65 =>
 G v53 false (fun k66 =>
 B2 (cf (.func (.func 70) [] []) [v56, v64] h65) fun v67 h68 =>
 k66 v67 h68) (fun v69 h70 =>
 G v53 false (fun k71 =>
 B1 (unA .not v69) fun v72 =>
 k71 v72 h70) (fun v73 h74 =>
 B1 (pk v53 (.bool true) v73) fun v75 =>
 G v75 false (fun k76 =>
 B1 (iar 2 1 (.ptr i43 0) (.int .i64 0)) fun v77 =>
 k76 v77 h74) (fun v78 h79 =>
 G v75 false (fun k80 =>
 B1 (ld v78 h79) fun v81 =>
 k80 v81 h79) (fun v82 h83 =>
 G v75 false (fun k84 =>
 B1 (iar 2 1 (.ptr i43 0) (.int .i64 1)) fun v85 =>
 k84 v85 h83) (fun v86 h87 =>
 G v75 false (fun k88 =>
 B1 (ld v86 h87) fun v89 =>
 k88 v89 h87) (fun v90 h91 =>
 G v75 false (fun k92 =>
 B1 (ieq v82 v90) fun v93 =>
 k92 v93 h91) (fun v94 h95 =>
 B1 (pk v75 (.bool true) v94) fun v96 =>
 G v96 false (fun k97 =>
 k97 x34 h95) (fun v98 h99 =>
 G v96 false (fun k100 =>
 B1 (lda 2 (.ptr i43 0) h99) fun v101 =>
 k100 v101 h99) (fun v102 h103 =>
 G v96 false (fun k104 =>
 B1 (lookupA P 119 v98 v102 false h103) fun v105 =>
 k104 v105 h103) (fun v106 h107 =>
 B1 (pk v96 (.bool true) v106) fun v108 =>
 j47 x33 x34 (.ptr i43 0) x35 x36 x37 v108 h107) h103) h99) h95) h91) h87) h83) h79) h74) h70) h65) h61) h57) h52) (fun x109 x110 x111 x112 x113 x114 x115 h116 =>
 CD x115 (
 some ((.bool false), h116)) (
 j46 x109 x110 x111 x112 x113 x114 h116))) (fun x117 x118 x119 x120 x121 x122 h123 =>
 B1 (lda 2 x119 h123) fun v124 =>
 B1 (mapUpd P 119 x118 v124 (.bool true) h123) fun h125 =>
 j40 x117 x118 x120 x121 x122 h125)) (fun x126 x127 x128 x129 x130 h131 =>
 B1 (iadd x130 (.int .i64 1)) fun v132 =>
 j32 x126 x127 x128 x129 v132 h131)) (
 j31  h38)

noncomputable def l_graph_Good (J : JT) (G : GT) (cf : CF) (j31 : K.Fn 0) : K.Fn 5 := lpF P an J G cf 39 [1, 1, 1, 0, 1, 0, 0] [1, 3, 16, 17, 18] (fun q t H => match Nat.beq q 0 with | true => app 0 j31 (vals [] t) H | false => (fun _ _ _ => none) q t H)

theorem rl_graph_Good (J : JT) (G : GT) (cf : CF) (j31 : K.Fn 0) (j32 : K.Fn 5) (x33 x34 x35 x36 x37 : AV) (h38 : Hp) : lpB P an J G cf 39 [1, 1, 1, 0, 1, 0, 0] [1, 3, 16, 17, 18] (fun q t H => match Nat.beq q 0 with | true => app 0 j31 (vals [] t) H | false => (fun _ _ _ => none) q t H) j32 [x33, x34, x35, x36, x37] h38 = bl_graph_Good J G cf j31 j32 x33 x34 x35 x36 x37 h38 := by kernel_rfl

theorem ql_graph_Good (cf : CF) (j31 : K.Fn 0) (x33 x34 x35 x36 x37 : AV) (h38 : Hp) : l_graph_Good JN GO cf j31 x33 x34 x35 x36 x37 h38 = bl_graph_Good JN GO cf j31 (l_graph_Good JN GO cf j31) x33 x34 x35 x36 x37 h38 := Eq.trans (b := app 5 (l_graph_Good JN GO cf j31) [x33, x34, x35, x36, x37] h38) (by kernel_rfl) ((lpQ cf _ _ _ _ [x33, x34, x35, x36, x37] rfl h38).trans (rl_graph_Good JN GO cf j31 _ x33 x34 x35 x36 x37 h38))

noncomputable def s_graph_Good (J : JT) (G : GT) (cf : CF) (a0 : AV) (H : Hp) : R :=
 BN (bx 39 a0 H) fun i0 h1 =>
 J 1 (fun j2 =>
 J 2 (fun j3 =>
 B1 (fa 0 (.ptr i0 0)) fun v4 =>
 B1 (ld v4 h1) fun v5 =>
 B1 (ilt v5 (.int .i64 0)) fun v6 =>
 G v6 false (fun k7 =>
 B1 (fa 0 (.ptr i0 0)) fun v8 =>
 k7 v8 h1) (fun v9 h10 =>
 G v6 false (fun k11 =>
 B1 (ld v9 h10) fun v12 =>
 k11 v12 h10) (fun v13 h14 =>
 G v6 false (fun k15 =>
 B1 (igt v13 (.int .i64 16)) fun v16 =>
 k15 v16 h14) (fun v17 h18 =>
 B1 (pk v6 (.bool true) v17) fun v19 =>
 j3 (.ptr i0 0) v19 h18) h14) h10) h1) (fun x20 x21 h22 =>
 CD x21 (
 some ((.bool false), h22)) (
 j2 x20 h22))) (fun x23 h24 =>
 BN (mk0 h24) fun i25 h26 =>
 J 0 (fun j27 =>
 B1 (fa 1 x23) fun v28 =>
 B1 (ld v28 h26) fun v29 =>
 B1 (lenx v29) fun v30 =>
 J 0 (fun j31 =>
 l_graph_Good J G cf j31 x23 (.map i25) v29 v30 (.int .i64 0) h26) (fun  h133 =>
 j27  h133)) (fun  h134 =>
 some ((.bool true), h134)))

theorem e_graph_Good (J : JT) (G : GT) (cf : CF) (a0 : AV) (H : Hp) : callF P J G prim an cf 39 [a0] H = s_graph_Good J G cf a0 H := by kernel_rfl

theorem c_graph_Good {a0 : AV} {H : Hp} {r : AV × Hp} (h : s_graph_Good JN GO cK a0 H = some r) : cK (.func (.func 39) [] []) [a0] H = some r := callF_fix (first := []) (cap := []) ((e_graph_Good JN GO _ a0 H).trans h)

noncomputable def s__graph_Graph_in (J : JT) (G : GT) (cf : CF) (a0 a1 : AV) (H : Hp) : R :=
 BN (bx 39 a0 H) fun i0 h1 =>
 B1 (ige a1 (.int .i64 0)) fun v2 =>
 G v2 true (fun k3 =>
 k3 a1 h1) (fun v4 h5 =>
 G v2 true (fun k6 =>
 B1 (fa 0 (.ptr i0 0)) fun v7 =>
 k6 v7 h5) (fun v8 h9 =>
 G v2 true (fun k10 =>
 B1 (ld v8 h9) fun v11 =>
 k10 v11 h9) (fun v12 h13 =>
 G v2 true (fun k14 =>
 B1 (ilt v4 v12) fun v15 =>
 k14 v15 h13) (fun v16 h17 =>
 B1 (pk v2 v16 (.bool false)) fun v18 =>
 some (v18, h17)) h13) h9) h5) h1

theorem e__graph_Graph_in (J : JT) (G : GT) (cf : CF) (a0 a1 : AV) (H : Hp) : callF P J G prim an cf 70 [a0, a1] H = s__graph_Graph_in J G cf a0 a1 H := by kernel_rfl

theorem c__graph_Graph_in {a0 a1 : AV} {H : Hp} {r : AV × Hp} (h : s__graph_Graph_in JN GO cK a0 a1 H = some r) : cK (.func (.func 70) [] []) [a0, a1] H = some r := callF_fix (first := []) (cap := []) ((e__graph_Graph_in JN GO _ a0 a1 H).trans h)

noncomputable def bl_graph_beside (J : JT) (G : GT) (cf : CF) (j10 : K.Fn 1) (j11 : K.Fn 6) (x12 x13 x14 x15 x16 x17 : AV) (h18 : Hp) : R :=
 B1 (ilt x17 x16) fun v19 =>
 CD v19 (
 J 6 (fun j20 =>
 J 6 (fun j21 =>
 B1 (ia 2 x15 x17) fun v22 =>
 B1 (lda 2 v22 h18) fun v23 =>
 BN (newCells h18 [(.int .i64 0), (.int .i64 0)] 83 0) fun i24 h25 =>
 B1 (st 2 (.ptr i24 0) v23 h25) fun h26 =>
 J 8 (fun j27 =>
 B1 (iar 2 1 (.ptr i24 0) x13) fun v28 =>
 B1 (ld v28 h26) fun v29 =>
 B1 (ieq v29 x12) fun v30 =>
 j27 x12 x13 x14 (.ptr i24 0) x15 x16 x17 v30 h26) (fun x31 x32 x33 x34 x35 x36 x37 x38 h39 =>
 CD x38 (
 B1 (isub (.int .i64 1) x32) fun v40 =>
 B1 (iar 2 1 x34 v40) fun v41 =>
 B1 (ld v41 h39) fun v42 =>
 B1 (fl [(.int .i64 0)] [(0, 1, v42)]) fun l43 =>
 BN (newCells h39 l43 3 0) fun i44 h45 =>
 B2 (app' 3 1 [(.int .i64 0)] false x33 (.slice i44 0 1 1 true 1) h45) fun v46 h47 =>
 j21 x31 x32 v46 x35 x36 x37 h47) (
 j21 x31 x32 x33 x35 x36 x37 h39))) (fun x48 x49 x50 x51 x52 x53 h54 =>
 j20 x48 x49 x50 x51 x52 x53 h54)) (fun x55 x56 x57 x58 x59 x60 h61 =>
 B1 (iadd x60 (.int .i64 1)) fun v62 =>
 j11 x55 x56 x57 x58 x59 v62 h61)) (
 j10 x14 h18)

noncomputable def l_graph_beside (J : JT) (G : GT) (cf : CF) (j10 : K.Fn 1) : K.Fn 6 := lpF P an J G cf 71 [1, 1, 1, 0, 1, 0, 0] [1, 2, 7, 14, 15, 16] (fun q t H => match Nat.beq q 0 with | true => app 1 j10 (vals [7] t) H | false => (fun _ _ _ => none) q t H)

theorem rl_graph_beside (J : JT) (G : GT) (cf : CF) (j10 : K.Fn 1) (j11 : K.Fn 6) (x12 x13 x14 x15 x16 x17 : AV) (h18 : Hp) : lpB P an J G cf 71 [1, 1, 1, 0, 1, 0, 0] [1, 2, 7, 14, 15, 16] (fun q t H => match Nat.beq q 0 with | true => app 1 j10 (vals [7] t) H | false => (fun _ _ _ => none) q t H) j11 [x12, x13, x14, x15, x16, x17] h18 = bl_graph_beside J G cf j10 j11 x12 x13 x14 x15 x16 x17 h18 := by kernel_rfl

theorem ql_graph_beside (cf : CF) (j10 : K.Fn 1) (x12 x13 x14 x15 x16 x17 : AV) (h18 : Hp) : l_graph_beside JN GO cf j10 x12 x13 x14 x15 x16 x17 h18 = bl_graph_beside JN GO cf j10 (l_graph_beside JN GO cf j10) x12 x13 x14 x15 x16 x17 h18 := Eq.trans (b := app 6 (l_graph_beside JN GO cf j10) [x12, x13, x14, x15, x16, x17] h18) (by kernel_rfl) ((lpQ cf _ _ _ _ [x12, x13, x14, x15, x16, x17] rfl h18).trans (rl_graph_beside JN GO cf j10 _ x12 x13 x14 x15 x16 x17 h18))

noncomputable def s_graph_beside (J : JT) (G : GT) (cf : CF) (a0 a1 a2 : AV) (H : Hp) : R :=
 BN (bx 39 a0 H) fun i0 h1 =>
 B1 (lda 2 (.ptr i0 0) h1) fun v2 =>
 B2 (cf (.func (.func 39) [] []) [v2] h1) fun v3 h4 =>
 B1 (unA .not v3) fun v5 =>
 CD v5 (
 some (.slice0, h4)) (
 J 1 (fun j6 =>
 B1 (fa 1 (.ptr i0 0)) fun v7 =>
 B1 (ld v7 h4) fun v8 =>
 B1 (lenx v8) fun v9 =>
 J 1 (fun j10 =>
 l_graph_beside J G cf j10 a1 a2 .slice0 v8 v9 (.int .i64 0) h4) (fun x63 h64 =>
 j6 x63 h64)) (fun x65 h66 =>
 B2 (cf (.func (.func 98) [] []) [x65] h66) fun v67 h68 =>
 some (x65, h68)))

theorem e_graph_beside (J : JT) (G : GT) (cf : CF) (a0 a1 a2 : AV) (H : Hp) : callF P J G prim an cf 71 [a0, a1, a2] H = s_graph_beside J G cf a0 a1 a2 H := by kernel_rfl

theorem c_graph_beside {a0 a1 a2 : AV} {H : Hp} {r : AV × Hp} (h : s_graph_beside JN GO cK a0 a1 a2 H = some r) : cK (.func (.func 71) [] []) [a0, a1, a2] H = some r := callF_fix (first := []) (cap := []) ((e_graph_beside JN GO _ a0 a1 a2 H).trans h)

noncomputable def s_graph_Behind (J : JT) (G : GT) (cf : CF) (a0 a1 : AV) (H : Hp) : R :=
 BN (bx 39 a0 H) fun i0 h1 =>
 B1 (lda 2 (.ptr i0 0) h1) fun v2 =>
 B2 (cf (.func (.func 71) [] []) [v2, a1, (.int .i64 0)] h1) fun v3 h4 =>
 some (v3, h4)

theorem e_graph_Behind (J : JT) (G : GT) (cf : CF) (a0 a1 : AV) (H : Hp) : callF P J G prim an cf 41 [a0, a1] H = s_graph_Behind J G cf a0 a1 H := by kernel_rfl

theorem c_graph_Behind {a0 a1 : AV} {H : Hp} {r : AV × Hp} (h : s_graph_Behind JN GO cK a0 a1 H = some r) : cK (.func (.func 41) [] []) [a0, a1] H = some r := callF_fix (first := []) (cap := []) ((e_graph_Behind JN GO _ a0 a1 H).trans h)

noncomputable def bl_graph_far2 (J : JT) (G : GT) (cf : CF) (j10 : K.Fn 1) (j20 : K.Fn 4) (j23 : K.Fn 4) (j35 : K.Fn 7) (j54 : K.Fn 7) (j55 : K.Fn 10) (x56 x57 x58 x59 x60 x61 x62 x63 x64 x65 : AV) (h66 : Hp) : R :=
 B1 (ilt x65 x64) fun v67 =>
 CD v67 (
 J 10 (fun j68 =>
 J 10 (fun j69 =>
 B1 (ia 1 x63 x65) fun v70 =>
 B1 (ld v70 h66) fun v71 =>
 J 12 (fun j72 =>
 B1 (ia 1 x57 v71) fun v73 =>
 B1 (ld v73 h66) fun v74 =>
 B1 (ieq v74 (.int .i64 0)) fun v75 =>
 j72 x56 x57 x58 x59 v71 x60 x61 x62 x63 x64 x65 v75 h66) (fun x76 x77 x78 x79 x80 x81 x82 x83 x84 x85 x86 x87 h88 =>
 CD x87 (
 J 11 (fun j89 =>
 B1 (ia 1 x77 x80) fun v90 =>
 B1 (st 1 v90 x78 h88) fun h91 =>
 j89 x76 x77 x78 x79 x80 x81 x82 x83 x84 x85 x86 h91) (fun x92 x93 x94 x95 x96 x97 x98 x99 x100 x101 x102 h103 =>
 B1 (fl [(.int .i64 0)] [(0, 1, x96)]) fun l104 =>
 BN (newCells h103 l104 3 0) fun i105 h106 =>
 B2 (app' 3 1 [(.int .i64 0)] false x95 (.slice i105 0 1 1 true 1) h106) fun v107 h108 =>
 j69 x92 x93 x94 v107 x97 x98 x99 x100 x101 x102 h108)) (
 j69 x76 x77 x78 x79 x81 x82 x83 x84 x85 x86 h88))) (fun x109 x110 x111 x112 x113 x114 x115 x116 x117 x118 h119 =>
 j68 x109 x110 x111 x112 x113 x114 x115 x116 x117 x118 h119)) (fun x120 x121 x122 x123 x124 x125 x126 x127 x128 x129 h130 =>
 B1 (iadd x129 (.int .i64 1)) fun v131 =>
 j55 x120 x121 x122 x123 x124 x125 x126 x127 x128 v131 h130)) (
 j54 x56 x57 x58 x59 x60 x61 x62 h66)

noncomputable def l_graph_far2 (J : JT) (G : GT) (cf : CF) (j10 : K.Fn 1) (j20 : K.Fn 4) (j23 : K.Fn 4) (j35 : K.Fn 7) (j54 : K.Fn 7) : K.Fn 10 := lpF P an J G cf 40 [1, 1, 1, 0, 1, 0, 0, 1, 0, 0, 1, 0, 1, 0, 0, 1, 1, 0, 0, 1, 1, 0, 0] [2, 5, 7, 8, 23, 24, 25, 31, 32, 33] (fun q t H => match Nat.beq q 4 with | true => app 7 j54 (vals [2, 5, 7, 8, 23, 24, 25] t) H | false => (fun q t H => match Nat.beq q 3 with | true => app 7 j35 (vals [2, 5, 7, 8, 23, 24, 25] t) H | false => (fun q t H => match Nat.beq q 2 with | true => app 4 j23 (vals [2, 5, 7, 8] t) H | false => (fun q t H => match Nat.beq q 1 with | true => app 4 j20 (vals [2, 5, 6, 7] t) H | false => (fun q t H => match Nat.beq q 0 with | true => app 1 j10 (vals [5] t) H | false => (fun _ _ _ => none) q t H) q t H) q t H) q t H) q t H)

theorem rl_graph_far2 (J : JT) (G : GT) (cf : CF) (j10 : K.Fn 1) (j20 : K.Fn 4) (j23 : K.Fn 4) (j35 : K.Fn 7) (j54 : K.Fn 7) (j55 : K.Fn 10) (x56 x57 x58 x59 x60 x61 x62 x63 x64 x65 : AV) (h66 : Hp) : lpB P an J G cf 40 [1, 1, 1, 0, 1, 0, 0, 1, 0, 0, 1, 0, 1, 0, 0, 1, 1, 0, 0, 1, 1, 0, 0] [2, 5, 7, 8, 23, 24, 25, 31, 32, 33] (fun q t H => match Nat.beq q 4 with | true => app 7 j54 (vals [2, 5, 7, 8, 23, 24, 25] t) H | false => (fun q t H => match Nat.beq q 3 with | true => app 7 j35 (vals [2, 5, 7, 8, 23, 24, 25] t) H | false => (fun q t H => match Nat.beq q 2 with | true => app 4 j23 (vals [2, 5, 7, 8] t) H | false => (fun q t H => match Nat.beq q 1 with | true => app 4 j20 (vals [2, 5, 6, 7] t) H | false => (fun q t H => match Nat.beq q 0 with | true => app 1 j10 (vals [5] t) H | false => (fun _ _ _ => none) q t H) q t H) q t H) q t H) q t H) j55 [x56, x57, x58, x59, x60, x61, x62, x63, x64, x65] h66 = bl_graph_far2 J G cf j10 j20 j23 j35 j54 j55 x56 x57 x58 x59 x60 x61 x62 x63 x64 x65 h66 := by kernel_rfl

theorem ql_graph_far2 (cf : CF) (j10 : K.Fn 1) (j20 : K.Fn 4) (j23 : K.Fn 4) (j35 : K.Fn 7) (j54 : K.Fn 7) (x56 x57 x58 x59 x60 x61 x62 x63 x64 x65 : AV) (h66 : Hp) : l_graph_far2 JN GO cf j10 j20 j23 j35 j54 x56 x57 x58 x59 x60 x61 x62 x63 x64 x65 h66 = bl_graph_far2 JN GO cf j10 j20 j23 j35 j54 (l_graph_far2 JN GO cf j10 j20 j23 j35 j54) x56 x57 x58 x59 x60 x61 x62 x63 x64 x65 h66 := Eq.trans (b := app 10 (l_graph_far2 JN GO cf j10 j20 j23 j35 j54) [x56, x57, x58, x59, x60, x61, x62, x63, x64, x65] h66) (by kernel_rfl) ((lpQ cf _ _ _ _ [x56, x57, x58, x59, x60, x61, x62, x63, x64, x65] rfl h66).trans (rl_graph_far2 JN GO cf j10 j20 j23 j35 j54 _ x56 x57 x58 x59 x60 x61 x62 x63 x64 x65 h66))

noncomputable def bl_graph_far1 (J : JT) (G : GT) (cf : CF) (j10 : K.Fn 1) (j20 : K.Fn 4) (j23 : K.Fn 4) (j24 : K.Fn 7) (x25 x26 x27 x28 x29 x30 x31 : AV) (h32 : Hp) : R :=
 B1 (ilt x31 x30) fun v33 =>
 CD v33 (
 J 7 (fun j34 =>
 J 7 (fun j35 =>
 B1 (ia 1 x29 x31) fun v36 =>
 B1 (ld v36 h32) fun v37 =>
 J 10 (fun j38 =>
 B1 (lda 2 x25 h32) fun v39 =>
 B2 (cf (.func (.func 41) [] []) [v39, v37] h32) fun v40 h41 =>
 B1 (lenx v40) fun v42 =>
 j38 x25 x26 x27 x28 x29 x30 x31 v40 v42 (.int .i64 0) h41) (fun x43 x44 x45 x46 x47 x48 x49 x50 x51 x52 h53 =>
 J 7 (fun j54 =>
 l_graph_far2 J G cf j10 j20 j23 j35 j54 x43 x44 x45 x46 x47 x48 x49 x50 x51 x52 h53) (fun x132 x133 x134 x135 x136 x137 x138 h139 =>
 j35 x132 x133 x134 x135 x136 x137 x138 h139))) (fun x140 x141 x142 x143 x144 x145 x146 h147 =>
 j34 x140 x141 x142 x143 x144 x145 x146 h147)) (fun x148 x149 x150 x151 x152 x153 x154 h155 =>
 B1 (iadd x154 (.int .i64 1)) fun v156 =>
 j24 x148 x149 x150 x151 x152 x153 v156 h155)) (
 j23 x25 x26 x27 x28 h32)

noncomputable def l_graph_far1 (J : JT) (G : GT) (cf : CF) (j10 : K.Fn 1) (j20 : K.Fn 4) (j23 : K.Fn 4) : K.Fn 7 := lpF P an J G cf 40 [1, 1, 1, 0, 1, 0, 0, 1, 0, 0, 1, 0, 1, 0, 0] [2, 5, 7, 8, 23, 24, 25] (fun q t H => match Nat.beq q 2 with | true => app 4 j23 (vals [2, 5, 7, 8] t) H | false => (fun q t H => match Nat.beq q 1 with | true => app 4 j20 (vals [2, 5, 6, 7] t) H | false => (fun q t H => match Nat.beq q 0 with | true => app 1 j10 (vals [5] t) H | false => (fun _ _ _ => none) q t H) q t H) q t H)

theorem rl_graph_far1 (J : JT) (G : GT) (cf : CF) (j10 : K.Fn 1) (j20 : K.Fn 4) (j23 : K.Fn 4) (j24 : K.Fn 7) (x25 x26 x27 x28 x29 x30 x31 : AV) (h32 : Hp) : lpB P an J G cf 40 [1, 1, 1, 0, 1, 0, 0, 1, 0, 0, 1, 0, 1, 0, 0] [2, 5, 7, 8, 23, 24, 25] (fun q t H => match Nat.beq q 2 with | true => app 4 j23 (vals [2, 5, 7, 8] t) H | false => (fun q t H => match Nat.beq q 1 with | true => app 4 j20 (vals [2, 5, 6, 7] t) H | false => (fun q t H => match Nat.beq q 0 with | true => app 1 j10 (vals [5] t) H | false => (fun _ _ _ => none) q t H) q t H) q t H) j24 [x25, x26, x27, x28, x29, x30, x31] h32 = bl_graph_far1 J G cf j10 j20 j23 j24 x25 x26 x27 x28 x29 x30 x31 h32 := by kernel_rfl

theorem ql_graph_far1 (cf : CF) (j10 : K.Fn 1) (j20 : K.Fn 4) (j23 : K.Fn 4) (x25 x26 x27 x28 x29 x30 x31 : AV) (h32 : Hp) : l_graph_far1 JN GO cf j10 j20 j23 x25 x26 x27 x28 x29 x30 x31 h32 = bl_graph_far1 JN GO cf j10 j20 j23 (l_graph_far1 JN GO cf j10 j20 j23) x25 x26 x27 x28 x29 x30 x31 h32 := Eq.trans (b := app 7 (l_graph_far1 JN GO cf j10 j20 j23) [x25, x26, x27, x28, x29, x30, x31] h32) (by kernel_rfl) ((lpQ cf _ _ _ _ [x25, x26, x27, x28, x29, x30, x31] rfl h32).trans (rl_graph_far1 JN GO cf j10 j20 j23 _ x25 x26 x27 x28 x29 x30 x31 h32))

noncomputable def bl_graph_far (J : JT) (G : GT) (cf : CF) (j10 : K.Fn 1) (j11 : K.Fn 4) (x12 x13 x14 x15 : AV) (h16 : Hp) : R :=
 B1 (lenx x14) fun v17 =>
 B1 (igt v17 (.int .i64 0)) fun v18 =>
 CD v18 (
 J 4 (fun j19 =>
 J 4 (fun j20 =>
 J 4 (fun j21 =>
 B1 (lenx x14) fun v22 =>
 J 4 (fun j23 =>
 l_graph_far1 J G cf j10 j20 j23 x12 x13 x15 .slice0 x14 v22 (.int .i64 0) h16) (fun x157 x158 x159 x160 h161 =>
 j21 x157 x158 x159 x160 h161)) (fun x162 x163 x164 x165 h166 =>
 j20 x162 x163 x165 x164 h166)) (fun x167 x168 x169 x170 h171 =>
 j19 x167 x168 x169 x170 h171)) (fun x172 x173 x174 x175 h176 =>
 B1 (iadd x175 (.int .i64 1)) fun v177 =>
 j11 x172 x173 x174 v177 h176)) (
 j10 x13 h16)

noncomputable def l_graph_far (J : JT) (G : GT) (cf : CF) (j10 : K.Fn 1) : K.Fn 4 := lpF P an J G cf 40 [1, 1, 1, 0, 1, 0, 0] [2, 5, 6, 7] (fun q t H => match Nat.beq q 0 with | true => app 1 j10 (vals [5] t) H | false => (fun _ _ _ => none) q t H)

theorem rl_graph_far (J : JT) (G : GT) (cf : CF) (j10 : K.Fn 1) (j11 : K.Fn 4) (x12 x13 x14 x15 : AV) (h16 : Hp) : lpB P an J G cf 40 [1, 1, 1, 0, 1, 0, 0] [2, 5, 6, 7] (fun q t H => match Nat.beq q 0 with | true => app 1 j10 (vals [5] t) H | false => (fun _ _ _ => none) q t H) j11 [x12, x13, x14, x15] h16 = bl_graph_far J G cf j10 j11 x12 x13 x14 x15 h16 := by kernel_rfl

theorem ql_graph_far (cf : CF) (j10 : K.Fn 1) (x12 x13 x14 x15 : AV) (h16 : Hp) : l_graph_far JN GO cf j10 x12 x13 x14 x15 h16 = bl_graph_far JN GO cf j10 (l_graph_far JN GO cf j10) x12 x13 x14 x15 h16 := Eq.trans (b := app 4 (l_graph_far JN GO cf j10) [x12, x13, x14, x15] h16) (by kernel_rfl) ((lpQ cf _ _ _ _ [x12, x13, x14, x15] rfl h16).trans (rl_graph_far JN GO cf j10 _ x12 x13 x14 x15 h16))

noncomputable def s_graph_far (J : JT) (G : GT) (cf : CF) (a0 a1 : AV) (H : Hp) : R :=
 BN (bx 39 a0 H) fun i0 h1 =>
 B1 (fa 0 (.ptr i0 0)) fun v2 =>
 B1 (ld v2 h1) fun v3 =>
 B2 (mks [(.int .i64 0)] 3 1 v3 v3 h1) fun v4 h5 =>
 B1 (fl [(.int .i64 0)] [(0, 1, a1)]) fun l6 =>
 BN (newCells h5 l6 3 0) fun i7 h8 =>
 J 1 (fun j9 =>
 J 1 (fun j10 =>
 l_graph_far J G cf j10 (.ptr i0 0) v4 (.slice i7 0 1 1 true 1) (.int .i64 1) h8) (fun x178 h179 =>
 j9 x178 h179)) (fun x180 h181 =>
 some (x180, h181))

theorem e_graph_far (J : JT) (G : GT) (cf : CF) (a0 a1 : AV) (H : Hp) : callF P J G prim an cf 40 [a0, a1] H = s_graph_far J G cf a0 a1 H := by kernel_rfl

theorem c_graph_far {a0 a1 : AV} {H : Hp} {r : AV × Hp} (h : s_graph_far JN GO cK a0 a1 H = some r) : cK (.func (.func 40) [] []) [a0, a1] H = some r := callF_fix (first := []) (cap := []) ((e_graph_far JN GO _ a0 a1 H).trans h)

noncomputable def bl_graph_Cycle (J : JT) (G : GT) (cf : CF) (j9 : K.Fn 3) (j10 : K.Fn 5) (x11 x12 x13 x14 x15 : AV) (h16 : Hp) : R :=
 B1 (ilt x15 x14) fun v17 =>
 CD v17 (
 J 5 (fun j18 =>
 J 5 (fun j19 =>
 J 7 (fun j20 =>
 B1 (lda 2 x11 h16) fun v21 =>
 B2 (cf (.func (.func 40) [] []) [v21, x15] h16) fun v22 h23 =>
 B1 (ia 1 v22 x15) fun v24 =>
 B1 (ld v24 h23) fun v25 =>
 j20 x11 x12 x13 x15 v25 x14 x15 h23) (fun x26 x27 x28 x29 x30 x31 x32 h33 =>
 J 8 (fun j34 =>
 B1 (igt x30 (.int .i64 0)) fun v35 =>
 G v35 true (fun k36 =>
 k36 x28 h33) (fun v37 h38 =>
 G v35 true (fun k39 =>
 B1 (ieq v37 (.int .i64 0)) fun v40 =>
 k39 v40 h38) (fun v41 h42 =>
 G v35 true (fun k43 =>
 k43 v41 h42) (fun v44 h45 =>
 G v44 false (fun k46 =>
 k46 x30 h45) (fun v47 h48 =>
 G v44 false (fun k49 =>
 k49 x28 h48) (fun v50 h51 =>
 G v44 false (fun k52 =>
 B1 (ilt v47 v50) fun v53 =>
 k52 v53 h51) (fun v54 h55 =>
 G v35 true (fun k56 =>
 B1 (pk v44 (.bool true) v54) fun v57 =>
 k56 v57 h55) (fun v58 h59 =>
 B1 (pk v35 v58 (.bool false)) fun v60 =>
 j34 x26 x27 x28 x29 x30 x31 x32 v60 h59) h55) h51) h48) h45) h42) h38) h33) (fun x61 x62 x63 x64 x65 x66 x67 x68 h69 =>
 CD x68 (
 j19 x61 x64 x65 x66 x67 h69) (
 j19 x61 x62 x63 x66 x67 h69)))) (fun x70 x71 x72 x73 x74 h75 =>
 j18 x70 x71 x72 x73 x74 h75)) (fun x76 x77 x78 x79 x80 h81 =>
 B1 (iadd x80 (.int .i64 1)) fun v82 =>
 j10 x76 x77 x78 x79 v82 h81)) (
 j9 x11 x12 x13 h16)

noncomputable def l_graph_Cycle (J : JT) (G : GT) (cf : CF) (j9 : K.Fn 3) : K.Fn 5 := lpF P an J G cf 14 [1, 1, 1, 0, 1, 0, 0] [1, 3, 4, 15, 16] (fun q t H => match Nat.beq q 0 with | true => app 3 j9 (vals [1, 3, 4] t) H | false => (fun _ _ _ => none) q t H)

theorem rl_graph_Cycle (J : JT) (G : GT) (cf : CF) (j9 : K.Fn 3) (j10 : K.Fn 5) (x11 x12 x13 x14 x15 : AV) (h16 : Hp) : lpB P an J G cf 14 [1, 1, 1, 0, 1, 0, 0] [1, 3, 4, 15, 16] (fun q t H => match Nat.beq q 0 with | true => app 3 j9 (vals [1, 3, 4] t) H | false => (fun _ _ _ => none) q t H) j10 [x11, x12, x13, x14, x15] h16 = bl_graph_Cycle J G cf j9 j10 x11 x12 x13 x14 x15 h16 := by kernel_rfl

theorem ql_graph_Cycle (cf : CF) (j9 : K.Fn 3) (x11 x12 x13 x14 x15 : AV) (h16 : Hp) : l_graph_Cycle JN GO cf j9 x11 x12 x13 x14 x15 h16 = bl_graph_Cycle JN GO cf j9 (l_graph_Cycle JN GO cf j9) x11 x12 x13 x14 x15 h16 := Eq.trans (b := app 5 (l_graph_Cycle JN GO cf j9) [x11, x12, x13, x14, x15] h16) (by kernel_rfl) ((lpQ cf _ _ _ _ [x11, x12, x13, x14, x15] rfl h16).trans (rl_graph_Cycle JN GO cf j9 _ x11 x12 x13 x14 x15 h16))

noncomputable def bl_graph_Cycle2 (J : JT) (G : GT) (cf : CF) (j97 : K.Fn 1) (j106 : K.Fn 4) (j124 : K.Fn 4) (j125 : K.Fn 7) (x126 x127 x128 x129 x130 x131 x132 : AV) (h133 : Hp) : R :=
 B1 (ilt x132 x131) fun v134 =>
 CD v134 (
 J 7 (fun j135 =>
 B1 (ia 1 x130 x132) fun v136 =>
 B1 (ld v136 h133) fun v137 =>
 J 9 (fun j138 =>
 B1 (ine v137 x127) fun v139 =>
 G v139 true (fun k140 =>
 B1 (lda 2 x126 h133) fun v141 =>
 k140 v141 h133) (fun v142 h143 =>
 G v139 true (fun k144 =>
 k144 v137 h143) (fun v145 h146 =>
 G v139 true (fun k147 =>
 B2 (cf (.func (.func 40) [] []) [v142, v145] h146) fun v148 h149 =>
 k147 v148 h149) (fun v150 h151 =>
 G v139 true (fun k152 =>
 k152 x127 h151) (fun v153 h154 =>
 G v139 true (fun k155 =>
 B1 (ia 1 v150 v153) fun v156 =>
 k155 v156 h154) (fun v157 h158 =>
 G v139 true (fun k159 =>
 B1 (ld v157 h158) fun v160 =>
 k159 v160 h158) (fun v161 h162 =>
 G v139 true (fun k163 =>
 k163 x129 h162) (fun v164 h165 =>
 G v139 true (fun k166 =>
 B1 (ieq v161 v164) fun v167 =>
 k166 v167 h165) (fun v168 h169 =>
 B1 (pk v139 v168 (.bool false)) fun v170 =>
 j138 x126 x127 x128 x129 v137 x130 x131 x132 v170 h169) h165) h162) h158) h154) h151) h146) h143) h133) (fun x171 x172 x173 x174 x175 x176 x177 x178 x179 h180 =>
 CD x179 (
 B1 (fl [(.int .i64 0)] [(0, 1, x175)]) fun l181 =>
 BN (newCells h180 l181 3 0) fun i182 h183 =>
 B2 (app' 3 1 [(.int .i64 0)] false x173 (.slice i182 0 1 1 true 1) h183) fun v184 h185 =>
 j124 x171 x172 v184 x174 h185) (
 j135 x171 x172 x173 x174 x176 x177 x178 h180))) (fun x186 x187 x188 x189 x190 x191 x192 h193 =>
 B1 (iadd x192 (.int .i64 1)) fun v194 =>
 j125 x186 x187 x188 x189 x190 x191 v194 h193)) (
 j124 x126 x127 x128 x129 h133)

noncomputable def l_graph_Cycle2 (J : JT) (G : GT) (cf : CF) (j97 : K.Fn 1) (j106 : K.Fn 4) (j124 : K.Fn 4) : K.Fn 7 := lpF P an J G cf 14 [1, 1, 1, 1, 1, 1, 0, 1, 0, 0, 1, 0, 0, 1, 0, 0] [1, 3, 7, 8, 56, 57, 58] (fun q t H => match Nat.beq q 4 with | true => app 4 j124 (vals [1, 3, 7, 8] t) H | false => (fun q t H => match Nat.beq q 3 with | true => app 4 j106 (vals [1, 3, 7, 8] t) H | false => (fun q t H => match Nat.beq q 2 with | true => app 1 j97 (vals [7] t) H | false => (fun _ _ _ => none) q t H) q t H) q t H)

theorem rl_graph_Cycle2 (J : JT) (G : GT) (cf : CF) (j97 : K.Fn 1) (j106 : K.Fn 4) (j124 : K.Fn 4) (j125 : K.Fn 7) (x126 x127 x128 x129 x130 x131 x132 : AV) (h133 : Hp) : lpB P an J G cf 14 [1, 1, 1, 1, 1, 1, 0, 1, 0, 0, 1, 0, 0, 1, 0, 0] [1, 3, 7, 8, 56, 57, 58] (fun q t H => match Nat.beq q 4 with | true => app 4 j124 (vals [1, 3, 7, 8] t) H | false => (fun q t H => match Nat.beq q 3 with | true => app 4 j106 (vals [1, 3, 7, 8] t) H | false => (fun q t H => match Nat.beq q 2 with | true => app 1 j97 (vals [7] t) H | false => (fun _ _ _ => none) q t H) q t H) q t H) j125 [x126, x127, x128, x129, x130, x131, x132] h133 = bl_graph_Cycle2 J G cf j97 j106 j124 j125 x126 x127 x128 x129 x130 x131 x132 h133 := by kernel_rfl

theorem ql_graph_Cycle2 (cf : CF) (j97 : K.Fn 1) (j106 : K.Fn 4) (j124 : K.Fn 4) (x126 x127 x128 x129 x130 x131 x132 : AV) (h133 : Hp) : l_graph_Cycle2 JN GO cf j97 j106 j124 x126 x127 x128 x129 x130 x131 x132 h133 = bl_graph_Cycle2 JN GO cf j97 j106 j124 (l_graph_Cycle2 JN GO cf j97 j106 j124) x126 x127 x128 x129 x130 x131 x132 h133 := Eq.trans (b := app 7 (l_graph_Cycle2 JN GO cf j97 j106 j124) [x126, x127, x128, x129, x130, x131, x132] h133) (by kernel_rfl) ((lpQ cf _ _ _ _ [x126, x127, x128, x129, x130, x131, x132] rfl h133).trans (rl_graph_Cycle2 JN GO cf j97 j106 j124 _ x126 x127 x128 x129 x130 x131 x132 h133))

noncomputable def bl_graph_Cycle1 (J : JT) (G : GT) (cf : CF) (j97 : K.Fn 1) (j98 : K.Fn 4) (x99 x100 x101 x102 : AV) (h103 : Hp) : R :=
 B1 (igt x102 (.int .i64 0)) fun v104 =>
 CD v104 (
 J 4 (fun j105 =>
 J 4 (fun j106 =>
 J 7 (fun j107 =>
 B1 (lda 2 x99 h103) fun v108 =>
 B1 (lenx x101) fun v109 =>
 B1 (isub v109 (.int .i64 1)) fun v110 =>
 B1 (ia 1 x101 v110) fun v111 =>
 B1 (ld v111 h103) fun v112 =>
 B2 (cf (.func (.func 41) [] []) [v108, v112] h103) fun v113 h114 =>
 B1 (lenx v113) fun v115 =>
 j107 x99 x100 x101 x102 v113 v115 (.int .i64 0) h114) (fun x116 x117 x118 x119 x120 x121 x122 h123 =>
 J 4 (fun j124 =>
 l_graph_Cycle2 J G cf j97 j106 j124 x116 x117 x118 x119 x120 x121 x122 h123) (fun x195 x196 x197 x198 h199 =>
 j106 x195 x196 x197 x198 h199))) (fun x200 x201 x202 x203 h204 =>
 j105 x200 x201 x202 x203 h204)) (fun x205 x206 x207 x208 h209 =>
 B1 (isub x208 (.int .i64 1)) fun v210 =>
 j98 x205 x206 x207 v210 h209)) (
 j97 x101 h103)

noncomputable def l_graph_Cycle1 (J : JT) (G : GT) (cf : CF) (j97 : K.Fn 1) : K.Fn 4 := lpF P an J G cf 14 [1, 1, 1, 1, 1, 1, 0, 1, 0, 0] [1, 3, 7, 8] (fun q t H => match Nat.beq q 2 with | true => app 1 j97 (vals [7] t) H | false => (fun _ _ _ => none) q t H)

theorem rl_graph_Cycle1 (J : JT) (G : GT) (cf : CF) (j97 : K.Fn 1) (j98 : K.Fn 4) (x99 x100 x101 x102 : AV) (h103 : Hp) : lpB P an J G cf 14 [1, 1, 1, 1, 1, 1, 0, 1, 0, 0] [1, 3, 7, 8] (fun q t H => match Nat.beq q 2 with | true => app 1 j97 (vals [7] t) H | false => (fun _ _ _ => none) q t H) j98 [x99, x100, x101, x102] h103 = bl_graph_Cycle1 J G cf j97 j98 x99 x100 x101 x102 h103 := by kernel_rfl

theorem ql_graph_Cycle1 (cf : CF) (j97 : K.Fn 1) (x99 x100 x101 x102 : AV) (h103 : Hp) : l_graph_Cycle1 JN GO cf j97 x99 x100 x101 x102 h103 = bl_graph_Cycle1 JN GO cf j97 (l_graph_Cycle1 JN GO cf j97) x99 x100 x101 x102 h103 := Eq.trans (b := app 4 (l_graph_Cycle1 JN GO cf j97) [x99, x100, x101, x102] h103) (by kernel_rfl) ((lpQ cf _ _ _ _ [x99, x100, x101, x102] rfl h103).trans (rl_graph_Cycle1 JN GO cf j97 _ x99 x100 x101 x102 h103))

noncomputable def s_graph_Cycle (J : JT) (G : GT) (cf : CF) (a0 : AV) (H : Hp) : R :=
 BN (bx 39 a0 H) fun i0 h1 =>
 B1 (lda 2 (.ptr i0 0) h1) fun v2 =>
 B2 (cf (.func (.func 39) [] []) [v2] h1) fun v3 h4 =>
 B1 (unA .not v3) fun v5 =>
 CD v5 (
 some (.slice0, h4)) (
 J 3 (fun j6 =>
 B1 (fa 0 (.ptr i0 0)) fun v7 =>
 B1 (ld v7 h4) fun v8 =>
 J 3 (fun j9 =>
 l_graph_Cycle J G cf j9 (.ptr i0 0) (.int .i64 0) (.int .i64 0) v8 (.int .i64 0) h4) (fun x83 x84 x85 h86 =>
 j6 x83 x84 x85 h86)) (fun x87 x88 x89 h90 =>
 B1 (ieq x89 (.int .i64 0)) fun v91 =>
 CD v91 (
 some (.slice0, h90)) (
 B1 (fl [(.int .i64 0)] [(0, 1, x88)]) fun l92 =>
 BN (newCells h90 l92 3 0) fun i93 h94 =>
 J 1 (fun j95 =>
 B1 (isub x89 (.int .i64 1)) fun v96 =>
 J 1 (fun j97 =>
 l_graph_Cycle1 J G cf j97 x87 x88 (.slice i93 0 1 1 true 1) v96 h94) (fun x211 h212 =>
 j95 x211 h212)) (fun x213 h214 =>
 some (x213, h214)))))

theorem e_graph_Cycle (J : JT) (G : GT) (cf : CF) (a0 : AV) (H : Hp) : callF P J G prim an cf 14 [a0] H = s_graph_Cycle J G cf a0 H := by kernel_rfl

theorem c_graph_Cycle {a0 : AV} {H : Hp} {r : AV × Hp} (h : s_graph_Cycle JN GO cK a0 H = some r) : cK (.func (.func 14) [] []) [a0] H = some r := callF_fix (first := []) (cap := []) ((e_graph_Cycle JN GO _ a0 H).trans h)

noncomputable def s_def_Name (J : JT) (G : GT) (cf : CF) (a0 : AV) (H : Hp) : R :=
 B1 (sne a0 (.str [])) fun v0 =>
 G v0 true (fun k1 =>
 k1 a0 H) (fun v2 h3 =>
 G v0 true (fun k4 =>
 B1 (lens v2) fun v5 =>
 k4 v5 h3) (fun v6 h7 =>
 G v0 true (fun k8 =>
 B1 (ile v6 (.int .i64 16)) fun v9 =>
 k8 v9 h7) (fun v10 h11 =>
 B1 (pk v0 v10 (.bool false)) fun v12 =>
 G v12 true (fun k13 =>
 k13 a0 h11) (fun v14 h15 =>
 G v12 true (fun k16 =>
 B2 (cf (.func (.func 61) [] []) [v14, (.str [97, 98, 99, 100, 101, 102, 103, 104, 105, 106, 107, 108, 109, 110, 111, 112, 113, 114, 115, 116, 117, 118, 119, 120, 121, 122, 48, 49, 50, 51, 52, 53, 54, 55, 56, 57])] h15) fun v17 h18 =>
 k16 v17 h18) (fun v19 h20 =>
 G v12 true (fun k21 =>
 B1 (seq v19 (.str [])) fun v22 =>
 k21 v22 h20) (fun v23 h24 =>
 B1 (pk v12 v23 (.bool false)) fun v25 =>
 some (v25, h24)) h20) h15) h11) h7) h3) H

theorem e_def_Name (J : JT) (G : GT) (cf : CF) (a0 : AV) (H : Hp) : callF P J G prim an cf 27 [a0] H = s_def_Name J G cf a0 H := by kernel_rfl

theorem c_def_Name {a0 : AV} {H : Hp} {r : AV × Hp} (h : s_def_Name JN GO cK a0 H = some r) : cK (.func (.func 27) [] []) [a0] H = some r := callF_fix (first := []) (cap := []) ((e_def_Name JN GO _ a0 H).trans h)

noncomputable def s_def_number (J : JT) (G : GT) (cf : CF) (a0 : AV) (H : Hp) : R :=
 J 1 (fun j0 =>
 B1 (lens a0) fun v1 =>
 B1 (igt v1 (.int .i64 4)) fun v2 =>
 CD v2 (
 some (.tuple [(.int .i64 0), (.bool false)], H)) (
 j0 a0 H)) (fun x3 h4 =>
 J 3 (fun j5 =>
 B2 (cf (.func (.func 106) [] []) [x3] h4) fun v6 h7 =>
 B1 (ex 0 v6) fun v8 =>
 B1 (ex 1 v6) fun v9 =>
 j5 x3 v8 v9 h7) (fun x10 x11 x12 h13 =>
 IFT (gA P .eql 115 true x12 .nilIface) <| B1 (binA P .eql 115 x12 .nilIface h13) fun v14 =>
 G v14 true (fun k15 =>
 k15 x11 h13) (fun v16 h17 =>
 G v14 true (fun k18 =>
 B2 (cf (.func (.func 66) [] []) [v16] h17) fun v19 h20 =>
 k18 v19 h20) (fun v21 h22 =>
 G v14 true (fun k23 =>
 k23 x10 h22) (fun v24 h25 =>
 G v14 true (fun k26 =>
 B1 (seq v21 v24) fun v27 =>
 k26 v27 h25) (fun v28 h29 =>
 B1 (pk v14 v28 (.bool false)) fun v30 =>
 G v30 true (fun k31 =>
 k31 x11 h29) (fun v32 h33 =>
 G v30 true (fun k34 =>
 B1 (ige v32 (.int .i64 0)) fun v35 =>
 k34 v35 h33) (fun v36 h37 =>
 B1 (pk v30 v36 (.bool false)) fun v38 =>
 some (.tuple [x11, v38], h37)) h33) h29) h25) h22) h17) h13))

theorem e_def_number (J : JT) (G : GT) (cf : CF) (a0 : AV) (H : Hp) : callF P J G prim an cf 94 [a0] H = s_def_number J G cf a0 H := by kernel_rfl

theorem c_def_number {a0 : AV} {H : Hp} {r : AV × Hp} (h : s_def_number JN GO cK a0 H = some r) : cK (.func (.func 94) [] []) [a0] H = some r := callF_fix (first := []) (cap := []) ((e_def_number JN GO _ a0 H).trans h)

noncomputable def bl_def_Task_set (J : JT) (G : GT) (cf : CF) (j13 : K.Fn 1) (j19 : K.Fn 0) (j20 : K.Fn 5) (x21 x22 x23 x24 x25 : AV) (h26 : Hp) : R :=
 B1 (ilt x25 x24) fun v27 =>
 CD v27 (
 J 5 (fun j28 =>
 B1 (ia 1 x23 x25) fun v29 =>
 B1 (ld v29 h26) fun v30 =>
 B2 (cf (.func (.func 64) [] []) [x22, v30] h26) fun v31 h32 =>
 B1 (ilt v31 (.int .i64 0)) fun v33 =>
 CD v33 (
 some ((.bool false), h32)) (
 B1 (nilA x21) fun v34 =>
 B1 (fa 1 v34) fun v35 =>
 B1 (ld v35 h32) fun v36 =>
 B1 (fl [(.int .i64 0)] [(0, 1, v31)]) fun l37 =>
 BN (newCells h32 l37 3 0) fun i38 h39 =>
 B2 (app' 3 1 [(.int .i64 0)] false v36 (.slice i38 0 1 1 true 1) h39) fun v40 h41 =>
 B1 (nilA x21) fun v42 =>
 B1 (fa 1 v42) fun v43 =>
 B1 (st 1 v43 v40 h41) fun h44 =>
 j28 x21 x22 x23 x24 x25 h44)) (fun x45 x46 x47 x48 x49 h50 =>
 B1 (iadd x49 (.int .i64 1)) fun v51 =>
 j20 x45 x46 x47 x48 v51 h50)) (
 j19  h26)

noncomputable def l_def_Task_set (J : JT) (G : GT) (cf : CF) (j13 : K.Fn 1) (j19 : K.Fn 0) : K.Fn 5 := lpF P an J G cf 65 [1, 1, 0, 1, 0, 1, 0, 0, 1, 0, 0] [0, 3, 23, 24, 25] (fun q t H => match Nat.beq q 1 with | true => app 0 j19 (vals [] t) H | false => (fun q t H => match Nat.beq q 0 with | true => app 1 j13 (vals [10] t) H | false => (fun _ _ _ => none) q t H) q t H)

theorem rl_def_Task_set (J : JT) (G : GT) (cf : CF) (j13 : K.Fn 1) (j19 : K.Fn 0) (j20 : K.Fn 5) (x21 x22 x23 x24 x25 : AV) (h26 : Hp) : lpB P an J G cf 65 [1, 1, 0, 1, 0, 1, 0, 0, 1, 0, 0] [0, 3, 23, 24, 25] (fun q t H => match Nat.beq q 1 with | true => app 0 j19 (vals [] t) H | false => (fun q t H => match Nat.beq q 0 with | true => app 1 j13 (vals [10] t) H | false => (fun _ _ _ => none) q t H) q t H) j20 [x21, x22, x23, x24, x25] h26 = bl_def_Task_set J G cf j13 j19 j20 x21 x22 x23 x24 x25 h26 := by kernel_rfl

theorem ql_def_Task_set (cf : CF) (j13 : K.Fn 1) (j19 : K.Fn 0) (x21 x22 x23 x24 x25 : AV) (h26 : Hp) : l_def_Task_set JN GO cf j13 j19 x21 x22 x23 x24 x25 h26 = bl_def_Task_set JN GO cf j13 j19 (l_def_Task_set JN GO cf j13 j19) x21 x22 x23 x24 x25 h26 := Eq.trans (b := app 5 (l_def_Task_set JN GO cf j13 j19) [x21, x22, x23, x24, x25] h26) (by kernel_rfl) ((lpQ cf _ _ _ _ [x21, x22, x23, x24, x25] rfl h26).trans (rl_def_Task_set JN GO cf j13 j19 _ x21 x22 x23 x24 x25 h26))

noncomputable def s_def_Task_set (J : JT) (G : GT) (cf : CF) (a0 a1 a2 a3 : AV) (H : Hp) : R :=
 J 6 (fun j0 =>
 B2 (cf (.func (.func 94) [] []) [a2] H) fun v1 h2 =>
 B1 (ex 0 v1) fun v3 =>
 B1 (ex 1 v1) fun v4 =>
 j0 a0 a1 a2 a3 v3 v4 h2) (fun x5 x6 x7 x8 x9 x10 h11 =>
 J 1 (fun j12 =>
 J 1 (fun j13 =>
 B1 (seq x6 (.str [97, 102, 116, 101, 114])) fun v14 =>
 CD v14 (
 J 0 (fun j15 =>
 B2 (cf (.func (.func 28) [] []) [x7, (.str [44])] h11) fun v16 h17 =>
 B1 (lenx v16) fun v18 =>
 J 0 (fun j19 =>
 l_def_Task_set J G cf j13 j19 x5 x8 v16 v18 (.int .i64 0) h17) (fun  h52 =>
 j15  h52)) (fun  h53 =>
 some ((.bool true), h53))) (
 B1 (seq x6 (.str [114, 101, 116, 114, 121])) fun v54 =>
 CD v54 (
 B1 (nilA x5) fun v55 =>
 B1 (fa 2 v55) fun v56 =>
 B1 (st 1 v56 x9 h11) fun h57 =>
 j13 x10 h57) (
 B1 (seq x6 (.str [119, 97, 105, 116])) fun v58 =>
 CD v58 (
 B1 (nilA x5) fun v59 =>
 B1 (fa 3 v59) fun v60 =>
 B1 (st 1 v60 x9 h11) fun h61 =>
 j13 x10 h61) (
 B1 (seq x6 (.str [98, 97, 115, 101])) fun v62 =>
 CD v62 (
 B1 (nilA x5) fun v63 =>
 B1 (fa 4 v63) fun v64 =>
 B1 (st 1 v64 x9 h11) fun h65 =>
 j13 x10 h65) (
 B1 (seq x6 (.str [111, 110])) fun v66 =>
 CD v66 (
 J 1 (fun j67 =>
 B1 (nilA x5) fun v68 =>
 B1 (fa 5 v68) fun v69 =>
 B1 (st 1 v69 x7 h11) fun h70 =>
 j67 x7 h70) (fun x71 h72 =>
 B1 (sne x71 (.str [])) fun v73 =>
 some (v73, h72))) (
 j13 x10 h11)))))) (fun x74 h75 =>
 j12 x74 h75)) (fun x76 h77 =>
 some (x76, h77)))

theorem e_def_Task_set (J : JT) (G : GT) (cf : CF) (a0 a1 a2 a3 : AV) (H : Hp) : callF P J G prim an cf 65 [a0, a1, a2, a3] H = s_def_Task_set J G cf a0 a1 a2 a3 H := by kernel_rfl

theorem c_def_Task_set {a0 a1 a2 a3 : AV} {H : Hp} {r : AV × Hp} (h : s_def_Task_set JN GO cK a0 a1 a2 a3 H = some r) : cK (.func (.func 65) [] []) [a0, a1, a2, a3] H = some r := callF_fix (first := []) (cap := []) ((e_def_Task_set JN GO _ a0 a1 a2 a3 H).trans h)

noncomputable def bl_def_task (J : JT) (G : GT) (cf : CF) (j20 : K.Fn 2) (j21 : K.Fn 7) (x22 x23 x24 x25 x26 x27 x28 : AV) (h29 : Hp) : R :=
 B1 (ilt x28 x27) fun v30 =>
 CD v30 (
 J 7 (fun j31 =>
 B1 (ia 1 x26 x28) fun v32 =>
 B1 (ld v32 h29) fun v33 =>
 J 10 (fun j34 =>
 B2 (cf (.func (.func 63) [] []) [v33, (.str [61])] h29) fun v35 h36 =>
 B1 (ex 0 v35) fun v37 =>
 B1 (ex 1 v35) fun v38 =>
 B1 (ex 2 v35) fun v39 =>
 j34 x22 x23 x24 x25 v33 v37 v38 x26 x27 x28 h36) (fun x40 x41 x42 x43 x44 x45 x46 x47 x48 x49 h50 =>
 B2 (cf (.func (.func 64) [] []) [x43, x45] h50) fun v51 h52 =>
 J 8 (fun j53 =>
 J 9 (fun j54 =>
 B1 (ilt v51 (.int .i64 0)) fun v55 =>
 G v55 false (fun k56 =>
 k56 x45 h52) (fun v57 h58 =>
 G v55 false (fun k59 =>
 B1 (lens v57) fun v60 =>
 k59 v60 h58) (fun v61 h62 =>
 G v55 false (fun k63 =>
 k63 x44 h62) (fun v64 h65 =>
 G v55 false (fun k66 =>
 B1 (lens v64) fun v67 =>
 k66 v67 h65) (fun v68 h69 =>
 G v55 false (fun k70 =>
 B1 (ieq v61 v68) fun v71 =>
 k70 v71 h69) (fun v72 h73 =>
 B1 (pk v55 (.bool true) v72) fun v74 =>
 G v74 false (fun k75 =>
 k75 x45 h73) (fun v76 h77 =>
 G v74 false (fun k78 =>
 k78 x46 h77) (fun v79 h80 =>
 G v74 false (fun k81 =>
 k81 x40 h80) (fun v82 h83 =>
 G v74 false (fun k84 =>
 B2 (cf (.func (.func 65) [] []) [x42, v76, v79, v82] h83) fun v85 h86 =>
 k84 v85 h86) (fun v87 h88 =>
 G v74 false (fun k89 =>
 B1 (unA .not v87) fun v90 =>
 k89 v90 h88) (fun v91 h92 =>
 B1 (pk v74 (.bool true) v91) fun v93 =>
 j54 x40 x41 x42 x43 v51 x47 x48 x49 v93 h92) h88) h83) h80) h77) h73) h69) h65) h62) h58) h52) (fun x94 x95 x96 x97 x98 x99 x100 x101 x102 h103 =>
 CD x102 (
 B1 (fl [(.str []), .slice0, (.int .i64 0), (.int .i64 0), (.int .i64 0), (.str [])] []) fun l104 =>
 B1 (st 6 x95 (.agg l104) h103) fun h105 =>
 B1 (lda 6 x95 h105) fun v106 =>
 some (.tuple [v106, (.bool false)], h105)) (
 j53 x94 x95 x96 x97 x98 x99 x100 x101 h103))) (fun x107 x108 x109 x110 x111 x112 x113 x114 h115 =>
 B1 (iadd x111 (.int .i64 1)) fun v116 =>
 B1 (sll 1 x110 (some v116) none none) fun v117 =>
 j31 x107 x108 x109 v117 x112 x113 x114 h115))) (fun x118 x119 x120 x121 x122 x123 x124 h125 =>
 B1 (iadd x124 (.int .i64 1)) fun v126 =>
 j21 x118 x119 x120 x121 x122 x123 v126 h125)) (
 j20 x23 x24 h29)

noncomputable def l_def_task (J : JT) (G : GT) (cf : CF) (j20 : K.Fn 2) : K.Fn 7 := lpF P an J G cf 29 [1, 1, 1, 0, 1, 0, 0] [1, 4, 6, 7, 20, 21, 22] (fun q t H => match Nat.beq q 0 with | true => app 2 j20 (vals [4, 6] t) H | false => (fun _ _ _ => none) q t H)

theorem rl_def_task (J : JT) (G : GT) (cf : CF) (j20 : K.Fn 2) (j21 : K.Fn 7) (x22 x23 x24 x25 x26 x27 x28 : AV) (h29 : Hp) : lpB P an J G cf 29 [1, 1, 1, 0, 1, 0, 0] [1, 4, 6, 7, 20, 21, 22] (fun q t H => match Nat.beq q 0 with | true => app 2 j20 (vals [4, 6] t) H | false => (fun _ _ _ => none) q t H) j21 [x22, x23, x24, x25, x26, x27, x28] h29 = bl_def_task J G cf j20 j21 x22 x23 x24 x25 x26 x27 x28 h29 := by kernel_rfl

theorem ql_def_task (cf : CF) (j20 : K.Fn 2) (x22 x23 x24 x25 x26 x27 x28 : AV) (h29 : Hp) : l_def_task JN GO cf j20 x22 x23 x24 x25 x26 x27 x28 h29 = bl_def_task JN GO cf j20 (l_def_task JN GO cf j20) x22 x23 x24 x25 x26 x27 x28 h29 := Eq.trans (b := app 7 (l_def_task JN GO cf j20) [x22, x23, x24, x25, x26, x27, x28] h29) (by kernel_rfl) ((lpQ cf _ _ _ _ [x22, x23, x24, x25, x26, x27, x28] rfl h29).trans (rl_def_task JN GO cf j20 _ x22 x23 x24 x25 x26 x27 x28 h29))

noncomputable def s_def_task (J : JT) (G : GT) (cf : CF) (a0 a1 : AV) (H : Hp) : R :=
 BN (newCells H [(.str []), .slice0, (.int .i64 0), (.int .i64 0), (.int .i64 0), (.str [])] 43 0) fun i0 h1 =>
 J 4 (fun j2 =>
 B1 (ia 1 a0 (.int .i64 0)) fun v3 =>
 B1 (ld v3 h1) fun v4 =>
 B1 (fl [(.str []), .slice0, (.int .i64 0), (.int .i64 0), (.int .i64 0), (.str [])] [(0, 1, v4), (3, 1, (.int .i64 10)), (4, 1, (.int .i64 1))]) fun l5 =>
 BN (newCells h1 [(.str []), .slice0, (.int .i64 0), (.int .i64 0), (.int .i64 0), (.str [])] 43 0) fun i6 h7 =>
 B1 (st 6 (.ptr i6 0) (.agg l5) h7) fun h8 =>
 j2 a0 a1 (.ptr i0 0) (.ptr i6 0) h8) (fun x9 x10 x11 x12 h13 =>
 B1 (fl [(.str []), (.str []), (.str []), (.str []), (.str [])] [(0, 1, (.str [97, 102, 116, 101, 114])), (1, 1, (.str [114, 101, 116, 114, 121])), (2, 1, (.str [119, 97, 105, 116])), (3, 1, (.str [98, 97, 115, 101])), (4, 1, (.str [111, 110]))]) fun l14 =>
 BN (newCells h13 l14 9 0) fun i15 h16 =>
 J 2 (fun j17 =>
 B1 (sll 1 x9 (some (.int .i64 1)) none none) fun v18 =>
 B1 (lenx v18) fun v19 =>
 J 2 (fun j20 =>
 l_def_task J G cf j20 x10 x11 x12 (.slice i15 0 5 5 true 1) v18 v19 (.int .i64 0) h16) (fun x127 x128 h129 =>
 j17 x127 x128 h129)) (fun x130 x131 h132 =>
 B1 (lda 6 x131 h132) fun v133 =>
 B1 (st 6 x130 v133 h132) fun h134 =>
 B1 (lda 6 x130 h134) fun v135 =>
 some (.tuple [v135, (.bool true)], h134)))

theorem e_def_task (J : JT) (G : GT) (cf : CF) (a0 a1 : AV) (H : Hp) : callF P J G prim an cf 29 [a0, a1] H = s_def_task J G cf a0 a1 H := by kernel_rfl

theorem c_def_task {a0 a1 : AV} {H : Hp} {r : AV × Hp} (h : s_def_task JN GO cK a0 a1 H = some r) : cK (.func (.func 29) [] []) [a0, a1] H = some r := callF_fix (first := []) (cap := []) ((e_def_task JN GO _ a0 a1 H).trans h)

noncomputable def bl_def_Parse (J : JT) (G : GT) (cf : CF) (j15 : K.Fn 3) (j16 : K.Fn 6) (x17 x18 x19 x20 x21 x22 : AV) (h23 : Hp) : R :=
 B1 (ilt x22 x21) fun v24 =>
 CD v24 (
 J 6 (fun j25 =>
 B1 (ia 1 x20 x22) fun v26 =>
 B1 (ld v26 h23) fun v27 =>
 B2 (cf (.func (.func 28) [] []) [v27, (.str [32])] h23) fun v28 h29 =>
 J 7 (fun j30 =>
 B1 (fl [.slice0] [(0, 1, v28)]) fun l31 =>
 BN (newCells h29 l31 45 0) fun i32 h33 =>
 B2 (app' 45 1 [.slice0] false x18 (.slice i32 0 1 1 true 1) h33) fun v34 h35 =>
 j30 x17 v34 x19 v28 x20 x21 x22 h35) (fun x36 x37 x38 x39 x40 x41 x42 h43 =>
 B1 (ia 1 x39 (.int .i64 0)) fun v44 =>
 B1 (ld v44 h43) fun v45 =>
 B1 (fl [(.str [])] [(0, 1, v45)]) fun l46 =>
 BN (newCells h43 l46 9 0) fun i47 h48 =>
 B2 (app' 9 1 [(.str [])] false x38 (.slice i47 0 1 1 true 1) h48) fun v49 h50 =>
 j25 x36 x37 v49 x40 x41 x42 h50)) (fun x51 x52 x53 x54 x55 x56 h57 =>
 B1 (iadd x56 (.int .i64 1)) fun v58 =>
 j16 x51 x52 x53 x54 x55 v58 h57)) (
 j15 x17 x18 x19 h23)

noncomputable def l_def_Parse (J : JT) (G : GT) (cf : CF) (j15 : K.Fn 3) : K.Fn 6 := lpF P an J G cf 9 [1, 1, 1, 1, 0, 1, 0, 0] [2, 4, 5, 20, 21, 22] (fun q t H => match Nat.beq q 0 with | true => app 3 j15 (vals [2, 4, 5] t) H | false => (fun _ _ _ => none) q t H)

theorem rl_def_Parse (J : JT) (G : GT) (cf : CF) (j15 : K.Fn 3) (j16 : K.Fn 6) (x17 x18 x19 x20 x21 x22 : AV) (h23 : Hp) : lpB P an J G cf 9 [1, 1, 1, 1, 0, 1, 0, 0] [2, 4, 5, 20, 21, 22] (fun q t H => match Nat.beq q 0 with | true => app 3 j15 (vals [2, 4, 5] t) H | false => (fun _ _ _ => none) q t H) j16 [x17, x18, x19, x20, x21, x22] h23 = bl_def_Parse J G cf j15 j16 x17 x18 x19 x20 x21 x22 h23 := by kernel_rfl

theorem ql_def_Parse (cf : CF) (j15 : K.Fn 3) (x17 x18 x19 x20 x21 x22 : AV) (h23 : Hp) : l_def_Parse JN GO cf j15 x17 x18 x19 x20 x21 x22 h23 = bl_def_Parse JN GO cf j15 (l_def_Parse JN GO cf j15) x17 x18 x19 x20 x21 x22 h23 := Eq.trans (b := app 6 (l_def_Parse JN GO cf j15) [x17, x18, x19, x20, x21, x22] h23) (by kernel_rfl) ((lpQ cf _ _ _ _ [x17, x18, x19, x20, x21, x22] rfl h23).trans (rl_def_Parse JN GO cf j15 _ x17 x18 x19 x20 x21 x22 h23))

noncomputable def bl_def_Parse1 (J : JT) (G : GT) (cf : CF) (j71 : K.Fn 2) (j72 : K.Fn 6) (x73 x74 x75 x76 x77 x78 : AV) (h79 : Hp) : R :=
 B1 (ilt x78 x77) fun v80 =>
 CD v80 (
 J 6 (fun j81 =>
 B1 (ia 1 x76 x78) fun v82 =>
 B1 (ld v82 h79) fun v83 =>
 J 8 (fun j84 =>
 B2 (cf (.func (.func 29) [] []) [v83, x74] h79) fun v85 h86 =>
 B1 (ex 0 v85) fun v87 =>
 B1 (ex 1 v85) fun v88 =>
 BN (newCells h86 [(.str []), .slice0, (.int .i64 0), (.int .i64 0), (.int .i64 0), (.str [])] 43 0) fun i89 h90 =>
 B1 (st 6 (.ptr i89 0) v87 h90) fun h91 =>
 j84 x73 x74 x75 (.ptr i89 0) v88 x76 x77 x78 h91) (fun x92 x93 x94 x95 x96 x97 x98 x99 h100 =>
 J 7 (fun j101 =>
 B1 (unA .not x96) fun v102 =>
 CD v102 (
 B1 (fl [.slice0] []) fun l103 =>
 B1 (st 1 x92 (.agg l103) h100) fun h104 =>
 B1 (lda 1 x92 h104) fun v105 =>
 some (.tuple [v105, (.int .i64 2)], h104)) (
 j101 x92 x93 x94 x95 x97 x98 x99 h100)) (fun x106 x107 x108 x109 x110 x111 x112 h113 =>
 B1 (fa 0 x108) fun v114 =>
 B1 (ld v114 h113) fun v115 =>
 B1 (lda 6 x109 h113) fun v116 =>
 B1 (fl [(.str []), .slice0, (.int .i64 0), (.int .i64 0), (.int .i64 0), (.str [])] [(0, 6, v116)]) fun l117 =>
 BN (newCells h113 l117 43 0) fun i118 h119 =>
 B2 (app' 43 6 [(.str []), .slice0, (.int .i64 0), (.int .i64 0), (.int .i64 0), (.str [])] false v115 (.slice i118 0 1 1 true 6) h119) fun v120 h121 =>
 B1 (fa 0 x108) fun v122 =>
 B1 (st 1 v122 v120 h121) fun h123 =>
 j81 x106 x107 x108 x110 x111 x112 h123))) (fun x124 x125 x126 x127 x128 x129 h130 =>
 B1 (iadd x129 (.int .i64 1)) fun v131 =>
 j72 x124 x125 x126 x127 x128 v131 h130)) (
 j71 x73 x75 h79)

noncomputable def l_def_Parse1 (J : JT) (G : GT) (cf : CF) (j71 : K.Fn 2) : K.Fn 6 := lpF P an J G cf 9 [1, 1, 1, 1, 1, 1, 0, 1, 0, 0] [2, 5, 9, 39, 40, 41] (fun q t H => match Nat.beq q 2 with | true => app 2 j71 (vals [2, 9] t) H | false => (fun _ _ _ => none) q t H)

theorem rl_def_Parse1 (J : JT) (G : GT) (cf : CF) (j71 : K.Fn 2) (j72 : K.Fn 6) (x73 x74 x75 x76 x77 x78 : AV) (h79 : Hp) : lpB P an J G cf 9 [1, 1, 1, 1, 1, 1, 0, 1, 0, 0] [2, 5, 9, 39, 40, 41] (fun q t H => match Nat.beq q 2 with | true => app 2 j71 (vals [2, 9] t) H | false => (fun _ _ _ => none) q t H) j72 [x73, x74, x75, x76, x77, x78] h79 = bl_def_Parse1 J G cf j71 j72 x73 x74 x75 x76 x77 x78 h79 := by kernel_rfl

theorem ql_def_Parse1 (cf : CF) (j71 : K.Fn 2) (x73 x74 x75 x76 x77 x78 : AV) (h79 : Hp) : l_def_Parse1 JN GO cf j71 x73 x74 x75 x76 x77 x78 h79 = bl_def_Parse1 JN GO cf j71 (l_def_Parse1 JN GO cf j71) x73 x74 x75 x76 x77 x78 h79 := Eq.trans (b := app 6 (l_def_Parse1 JN GO cf j71) [x73, x74, x75, x76, x77, x78] h79) (by kernel_rfl) ((lpQ cf _ _ _ _ [x73, x74, x75, x76, x77, x78] rfl h79).trans (rl_def_Parse1 JN GO cf j71 _ x73 x74 x75 x76 x77 x78 h79))

noncomputable def s_def_Parse (J : JT) (G : GT) (cf : CF) (a0 : AV) (H : Hp) : R :=
 BN (newCells H [.slice0] 25 0) fun i0 h1 =>
 J 2 (fun j2 =>
 B1 (lens a0) fun v3 =>
 B1 (igt v3 (.int .i64 1024)) fun v4 =>
 CD v4 (
 B1 (fl [.slice0] []) fun l5 =>
 B1 (st 1 (.ptr i0 0) (.agg l5) h1) fun h6 =>
 B1 (lda 1 (.ptr i0 0) h6) fun v7 =>
 some (.tuple [v7, (.int .i64 14)], h6)) (
 j2 a0 (.ptr i0 0) h1)) (fun x8 x9 h10 =>
 J 3 (fun j11 =>
 B2 (cf (.func (.func 28) [] []) [x8, (.str [59])] h10) fun v12 h13 =>
 B1 (lenx v12) fun v14 =>
 J 3 (fun j15 =>
 l_def_Parse J G cf j15 x9 .slice0 .slice0 v12 v14 (.int .i64 0) h13) (fun x59 x60 x61 h62 =>
 j11 x59 x60 x61 h62)) (fun x63 x64 x65 h66 =>
 BN (newCells h66 [.slice0] 25 0) fun i67 h68 =>
 J 2 (fun j69 =>
 B1 (lenx x64) fun v70 =>
 J 2 (fun j71 =>
 l_def_Parse1 J G cf j71 x63 x65 (.ptr i67 0) x64 v70 (.int .i64 0) h68) (fun x132 x133 h134 =>
 j69 x132 x133 h134)) (fun x135 x136 h137 =>
 J 2 (fun j138 =>
 B1 (lda 1 x136 h137) fun v139 =>
 B2 (cf (.func (.func 11) [] []) [v139] h137) fun v140 h141 =>
 B1 (ine v140 (.int .i64 0)) fun v142 =>
 CD v142 (
 B1 (fl [.slice0] []) fun l143 =>
 B1 (st 1 x135 (.agg l143) h141) fun h144 =>
 B1 (lda 1 x135 h144) fun v145 =>
 some (.tuple [v145, v140], h144)) (
 j138 x135 x136 h141)) (fun x146 x147 h148 =>
 B1 (lda 1 x147 h148) fun v149 =>
 B1 (st 1 x146 v149 h148) fun h150 =>
 B1 (lda 1 x146 h150) fun v151 =>
 some (.tuple [v151, (.int .i64 0)], h150)))))

theorem e_def_Parse (J : JT) (G : GT) (cf : CF) (a0 : AV) (H : Hp) : callF P J G prim an cf 9 [a0] H = s_def_Parse J G cf a0 H := by kernel_rfl

theorem c_def_Parse {a0 : AV} {H : Hp} {r : AV × Hp} (h : s_def_Parse JN GO cK a0 H = some r) : cK (.func (.func 9) [] []) [a0] H = some r := callF_fix (first := []) (cap := []) ((e_def_Parse JN GO _ a0 H).trans h)

noncomputable def s_def_in (J : JT) (G : GT) (cf : CF) (a0 a1 a2 : AV) (H : Hp) : R :=
 B1 (ige a0 a1) fun v0 =>
 G v0 true (fun k1 =>
 k1 a0 H) (fun v2 h3 =>
 G v0 true (fun k4 =>
 k4 a2 h3) (fun v5 h6 =>
 G v0 true (fun k7 =>
 B1 (ile v2 v5) fun v8 =>
 k7 v8 h6) (fun v9 h10 =>
 B1 (pk v0 v9 (.bool false)) fun v11 =>
 some (v11, h10)) h6) h3) H

theorem e_def_in (J : JT) (G : GT) (cf : CF) (a0 a1 a2 : AV) (H : Hp) : callF P J G prim an cf 32 [a0, a1, a2] H = s_def_in J G cf a0 a1 a2 H := by kernel_rfl

theorem c_def_in {a0 a1 a2 : AV} {H : Hp} {r : AV × Hp} (h : s_def_in JN GO cK a0 a1 a2 H = some r) : cK (.func (.func 32) [] []) [a0, a1, a2] H = some r := callF_fix (first := []) (cap := []) ((e_def_in JN GO _ a0 a1 a2 H).trans h)

noncomputable def bl__def_Def_some (J : JT) (G : GT) (cf : CF) (j6 : K.Fn 0) (j7 : K.Fn 4) (x8 x9 x10 x11 : AV) (h12 : Hp) : R :=
 B1 (ilt x11 x10) fun v13 =>
 CD v13 (
 J 4 (fun j14 =>
 J 6 (fun j15 =>
 B1 (ia 6 x9 x11) fun v16 =>
 B1 (lda 6 v16 h12) fun v17 =>
 BN (newCells h12 [(.str []), .slice0, (.int .i64 0), (.int .i64 0), (.int .i64 0), (.str [])] 43 0) fun i18 h19 =>
 B1 (st 6 (.ptr i18 0) v17 h19) fun h20 =>
 j15 x8 x11 (.ptr i18 0) x9 x10 x11 h20) (fun x21 x22 x23 x24 x25 x26 h27 =>
 B1 (lda 6 x23 h27) fun v28 =>
 B2 (cf x21 [x22, v28] h27) fun v29 h30 =>
 CD v29 (
 some ((.bool true), h30)) (
 j14 x21 x24 x25 x26 h30))) (fun x31 x32 x33 x34 h35 =>
 B1 (iadd x34 (.int .i64 1)) fun v36 =>
 j7 x31 x32 x33 v36 h35)) (
 j6  h12)

noncomputable def l__def_Def_some (J : JT) (G : GT) (cf : CF) (j6 : K.Fn 0) : K.Fn 4 := lpF P an J G cf 38 [1, 0, 1, 0, 0] [1, 8, 9, 10] (fun q t H => match Nat.beq q 0 with | true => app 0 j6 (vals [] t) H | false => (fun _ _ _ => none) q t H)

theorem rl__def_Def_some (J : JT) (G : GT) (cf : CF) (j6 : K.Fn 0) (j7 : K.Fn 4) (x8 x9 x10 x11 : AV) (h12 : Hp) : lpB P an J G cf 38 [1, 0, 1, 0, 0] [1, 8, 9, 10] (fun q t H => match Nat.beq q 0 with | true => app 0 j6 (vals [] t) H | false => (fun _ _ _ => none) q t H) j7 [x8, x9, x10, x11] h12 = bl__def_Def_some J G cf j6 j7 x8 x9 x10 x11 h12 := by kernel_rfl

theorem ql__def_Def_some (cf : CF) (j6 : K.Fn 0) (x8 x9 x10 x11 : AV) (h12 : Hp) : l__def_Def_some JN GO cf j6 x8 x9 x10 x11 h12 = bl__def_Def_some JN GO cf j6 (l__def_Def_some JN GO cf j6) x8 x9 x10 x11 h12 := Eq.trans (b := app 4 (l__def_Def_some JN GO cf j6) [x8, x9, x10, x11] h12) (by kernel_rfl) ((lpQ cf _ _ _ _ [x8, x9, x10, x11] rfl h12).trans (rl__def_Def_some JN GO cf j6 _ x8 x9 x10 x11 h12))

noncomputable def s__def_Def_some (J : JT) (G : GT) (cf : CF) (a0 a1 : AV) (H : Hp) : R :=
 BN (bx 25 a0 H) fun i0 h1 =>
 J 0 (fun j2 =>
 B1 (fa 0 (.ptr i0 0)) fun v3 =>
 B1 (ld v3 h1) fun v4 =>
 B1 (lenx v4) fun v5 =>
 J 0 (fun j6 =>
 l__def_Def_some J G cf j6 a1 v4 v5 (.int .i64 0) h1) (fun  h37 =>
 j2  h37)) (fun  h38 =>
 some ((.bool false), h38))

theorem e__def_Def_some (J : JT) (G : GT) (cf : CF) (a0 a1 : AV) (H : Hp) : callF P J G prim an cf 38 [a0, a1] H = s__def_Def_some J G cf a0 a1 H := by kernel_rfl

theorem c__def_Def_some {a0 a1 : AV} {H : Hp} {r : AV × Hp} (h : s__def_Def_some JN GO cK a0 a1 H = some r) : cK (.func (.func 38) [] []) [a0, a1] H = some r := callF_fix (first := []) (cap := []) ((e__def_Def_some JN GO _ a0 a1 H).trans h)

noncomputable def bl_def_Good (J : JT) (G : GT) (cf : CF) (j35 : K.Fn 1) (j36 : K.Fn 4) (x37 x38 x39 x40 : AV) (h41 : Hp) : R :=
 B1 (ilt x40 x39) fun v42 =>
 CD v42 (
 J 4 (fun j43 =>
 B1 (ia 2 x38 x40) fun v44 =>
 B1 (lda 2 v44 h41) fun v45 =>
 BN (newCells h41 [.nilFunc, (.int .i64 0)] 75 0) fun i46 h47 =>
 B1 (st 2 (.ptr i46 0) v45 h47) fun h48 =>
 B1 (lda 1 x37 h48) fun v49 =>
 B1 (fa 0 (.ptr i46 0)) fun v50 =>
 B1 (ld v50 h48) fun v51 =>
 B2 (cf (.func (.func 38) [] []) [v49, v51] h48) fun v52 h53 =>
 CD v52 (
 B1 (fa 1 (.ptr i46 0)) fun v54 =>
 B1 (ld v54 h53) fun v55 =>
 some (v55, h53)) (
 j43 x37 x38 x39 x40 h53)) (fun x56 x57 x58 x59 h60 =>
 B1 (iadd x59 (.int .i64 1)) fun v61 =>
 j36 x56 x57 x58 v61 h60)) (
 j35 x37 h41)

noncomputable def l_def_Good (J : JT) (G : GT) (cf : CF) (j35 : K.Fn 1) : K.Fn 4 := lpF P an J G cf 11 [1, 1, 1, 0, 1, 0, 0] [1, 18, 19, 20] (fun q t H => match Nat.beq q 0 with | true => app 1 j35 (vals [1] t) H | false => (fun _ _ _ => none) q t H)

theorem rl_def_Good (J : JT) (G : GT) (cf : CF) (j35 : K.Fn 1) (j36 : K.Fn 4) (x37 x38 x39 x40 : AV) (h41 : Hp) : lpB P an J G cf 11 [1, 1, 1, 0, 1, 0, 0] [1, 18, 19, 20] (fun q t H => match Nat.beq q 0 with | true => app 1 j35 (vals [1] t) H | false => (fun _ _ _ => none) q t H) j36 [x37, x38, x39, x40] h41 = bl_def_Good J G cf j35 j36 x37 x38 x39 x40 h41 := by kernel_rfl

theorem ql_def_Good (cf : CF) (j35 : K.Fn 1) (x37 x38 x39 x40 : AV) (h41 : Hp) : l_def_Good JN GO cf j35 x37 x38 x39 x40 h41 = bl_def_Good JN GO cf j35 (l_def_Good JN GO cf j35) x37 x38 x39 x40 h41 := Eq.trans (b := app 4 (l_def_Good JN GO cf j35) [x37, x38, x39, x40] h41) (by kernel_rfl) ((lpQ cf _ _ _ _ [x37, x38, x39, x40] rfl h41).trans (rl_def_Good JN GO cf j35 _ x37 x38 x39 x40 h41))

noncomputable def s_def_Good (J : JT) (G : GT) (cf : CF) (a0 : AV) (H : Hp) : R :=
 BN (bx 25 a0 H) fun i0 h1 =>
 J 1 (fun j2 =>
 J 2 (fun j3 =>
 B1 (fa 0 (.ptr i0 0)) fun v4 =>
 B1 (ld v4 h1) fun v5 =>
 B1 (lenx v5) fun v6 =>
 B2 (cf (.func (.func 32) [] []) [v6, (.int .i64 1), (.int .i64 16)] h1) fun v7 h8 =>
 B1 (unA .not v7) fun v9 =>
 j3 (.ptr i0 0) v9 h8) (fun x10 x11 h12 =>
 CD x11 (
 some ((.int .i64 1), h12)) (
 j2 x10 h12))) (fun x13 h14 =>
 BN (mk0 h14) fun i15 h16 =>
 BN (newCells h16 [.map0] 73 0) fun i17 h18 =>
 B1 (st 1 (.ptr i17 0) (.map i15) h18) fun h19 =>
 J 1 (fun j20 =>
 J 4 (fun j21 =>
 B1 (fl [.nilFunc, (.int .i64 0)] [(0, 1, (.func (.func 33) [] [])), (1, 1, (.int .i64 2))]) fun l22 =>
 B1 (fl [.nilFunc, (.int .i64 0)] [(0, 1, (.func (.func 34) [] [(.ptr i17 0)])), (1, 1, (.int .i64 5))]) fun l23 =>
 B1 (fl [.nilFunc, (.int .i64 0)] [(0, 1, (.func (.func 35) [] [])), (1, 1, (.int .i64 1))]) fun l24 =>
 B1 (fl [.nilFunc, (.int .i64 0)] [(0, 1, (.func (.func 36) [] [x13])), (1, 1, (.int .i64 1))]) fun l25 =>
 B1 (fl [.nilFunc, (.int .i64 0), .nilFunc, (.int .i64 0), .nilFunc, (.int .i64 0), .nilFunc, (.int .i64 0)] [(0, 2, (.agg l22)), (2, 2, (.agg l23)), (4, 2, (.agg l24)), (6, 2, (.agg l25))]) fun l26 =>
 BN (newCells h19 l26 75 0) fun i27 h28 =>
 B1 (lenx (.slice i27 0 4 4 true 2)) fun v29 =>
 j21 x13 (.slice i27 0 4 4 true 2) v29 (.int .i64 0) h28) (fun x30 x31 x32 x33 h34 =>
 J 1 (fun j35 =>
 l_def_Good J G cf j35 x30 x31 x32 x33 h34) (fun x62 h63 =>
 j20 x62 h63))) (fun x64 h65 =>
 J 0 (fun j66 =>
 J 1 (fun j67 =>
 B1 (lda 1 x64 h65) fun v68 =>
 B2 (cf (.func (.func 15) [] []) [v68] h65) fun v69 h70 =>
 B2 (cf (.func (.func 14) [] []) [v69] h70) fun v71 h72 =>
 B1 (lenx v71) fun v73 =>
 B1 (igt v73 (.int .i64 0)) fun v74 =>
 j67 v74 h72) (fun x75 h76 =>
 CD x75 (
 some ((.int .i64 7), h76)) (
 j66  h76))) (fun  h77 =>
 some ((.int .i64 0), h77))))

theorem e_def_Good (J : JT) (G : GT) (cf : CF) (a0 : AV) (H : Hp) : callF P J G prim an cf 11 [a0] H = s_def_Good J G cf a0 H := by kernel_rfl

theorem c_def_Good {a0 : AV} {H : Hp} {r : AV × Hp} (h : s_def_Good JN GO cK a0 H = some r) : cK (.func (.func 11) [] []) [a0] H = some r := callF_fix (first := []) (cap := []) ((e_def_Good JN GO _ a0 H).trans h)

noncomputable def s_def_Good_1 (J : JT) (G : GT) (cf : CF) (a0 a1 : AV) (H : Hp) : R :=
 BN (bx 43 a1 H) fun i0 h1 =>
 B1 (fa 0 (.ptr i0 0)) fun v2 =>
 B1 (ld v2 h1) fun v3 =>
 B2 (cf (.func (.func 27) [] []) [v3] h1) fun v4 h5 =>
 B1 (unA .not v4) fun v6 =>
 G v6 false (fun k7 =>
 B1 (fa 5 (.ptr i0 0)) fun v8 =>
 k7 v8 h5) (fun v9 h10 =>
 G v6 false (fun k11 =>
 B1 (ld v9 h10) fun v12 =>
 k11 v12 h10) (fun v13 h14 =>
 G v6 false (fun k15 =>
 B1 (sne v13 (.str [])) fun v16 =>
 k15 v16 h14) (fun v17 h18 =>
 G v6 false (fun k19 =>
 k19 v17 h18) (fun v20 h21 =>
 G v20 true (fun k22 =>
 B1 (fa 5 (.ptr i0 0)) fun v23 =>
 k22 v23 h21) (fun v24 h25 =>
 G v20 true (fun k26 =>
 B1 (ld v24 h25) fun v27 =>
 k26 v27 h25) (fun v28 h29 =>
 G v20 true (fun k30 =>
 B2 (cf (.func (.func 27) [] []) [v28] h29) fun v31 h32 =>
 k30 v31 h32) (fun v33 h34 =>
 G v20 true (fun k35 =>
 B1 (unA .not v33) fun v36 =>
 k35 v36 h34) (fun v37 h38 =>
 G v6 false (fun k39 =>
 B1 (pk v20 v37 (.bool false)) fun v40 =>
 k39 v40 h38) (fun v41 h42 =>
 B1 (pk v6 (.bool true) v41) fun v43 =>
 some (v43, h42)) h38) h34) h29) h25) h21) h18) h14) h10) h5

theorem e_def_Good_1 (J : JT) (G : GT) (cf : CF) (a0 a1 : AV) (H : Hp) : callF P J G prim an cf 33 [a0, a1] H = s_def_Good_1 J G cf a0 a1 H := by kernel_rfl

theorem c_def_Good_1 {a0 a1 : AV} {H : Hp} {r : AV × Hp} (h : s_def_Good_1 JN GO cK a0 a1 H = some r) : cK (.func (.func 33) [] []) [a0, a1] H = some r := callF_fix (first := []) (cap := []) ((e_def_Good_1 JN GO _ a0 a1 H).trans h)

noncomputable def s_def_Good_2 (J : JT) (G : GT) (cf : CF) (a0 a1 a2 : AV) (H : Hp) : R :=
 BN (bx 43 a1 H) fun i0 h1 =>
 J 3 (fun j2 =>
 B1 (ld a2 h1) fun v3 =>
 B1 (fa 0 (.ptr i0 0)) fun v4 =>
 B1 (ld v4 h1) fun v5 =>
 B1 (lkp .str (.bool false) false v3 v5 h1) fun v6 =>
 j2 a2 (.ptr i0 0) v6 h1) (fun x7 x8 x9 h10 =>
 B1 (ld x7 h10) fun v11 =>
 B1 (fa 0 x8) fun v12 =>
 B1 (ld v12 h10) fun v13 =>
 B1 (mup .str v11 v13 (.bool true) h10) fun h14 =>
 some (x9, h14))

theorem e_def_Good_2 (J : JT) (G : GT) (cf : CF) (a0 a1 a2 : AV) (H : Hp) : callF P J G prim an cf 34 [a0, a1, a2] H = s_def_Good_2 J G cf a0 a1 a2 H := by kernel_rfl

theorem c_def_Good_2 {a0 a1 a2 : AV} {H : Hp} {r : AV × Hp} (h : s_def_Good_2 JN GO cK a0 a1 a2 H = some r) : cK (.func (.func 34) [] [a2]) [a0, a1] H = some r := callF_fix (first := []) (cap := [a2]) ((e_def_Good_2 JN GO _ a0 a1 a2 H).trans h)

noncomputable def s_def_Good_3 (J : JT) (G : GT) (cf : CF) (a0 a1 : AV) (H : Hp) : R :=
 BN (bx 43 a1 H) fun i0 h1 =>
 B1 (fa 2 (.ptr i0 0)) fun v2 =>
 B1 (ld v2 h1) fun v3 =>
 B2 (cf (.func (.func 32) [] []) [v3, (.int .i64 0), (.int .i64 8)] h1) fun v4 h5 =>
 B1 (unA .not v4) fun v6 =>
 G v6 false (fun k7 =>
 B1 (fa 3 (.ptr i0 0)) fun v8 =>
 k7 v8 h5) (fun v9 h10 =>
 G v6 false (fun k11 =>
 B1 (ld v9 h10) fun v12 =>
 k11 v12 h10) (fun v13 h14 =>
 G v6 false (fun k15 =>
 B2 (cf (.func (.func 32) [] []) [v13, (.int .i64 1), (.int .i64 1000)] h14) fun v16 h17 =>
 k15 v16 h17) (fun v18 h19 =>
 G v6 false (fun k20 =>
 B1 (unA .not v18) fun v21 =>
 k20 v21 h19) (fun v22 h23 =>
 B1 (pk v6 (.bool true) v22) fun v24 =>
 G v24 false (fun k25 =>
 B1 (fa 4 (.ptr i0 0)) fun v26 =>
 k25 v26 h23) (fun v27 h28 =>
 G v24 false (fun k29 =>
 B1 (ld v27 h28) fun v30 =>
 k29 v30 h28) (fun v31 h32 =>
 G v24 false (fun k33 =>
 B2 (cf (.func (.func 32) [] []) [v31, (.int .i64 1), (.int .i64 1000)] h32) fun v34 h35 =>
 k33 v34 h35) (fun v36 h37 =>
 G v24 false (fun k38 =>
 B1 (unA .not v36) fun v39 =>
 k38 v39 h37) (fun v40 h41 =>
 B1 (pk v24 (.bool true) v40) fun v42 =>
 some (v42, h41)) h37) h32) h28) h23) h19) h14) h10) h5

theorem e_def_Good_3 (J : JT) (G : GT) (cf : CF) (a0 a1 : AV) (H : Hp) : callF P J G prim an cf 35 [a0, a1] H = s_def_Good_3 J G cf a0 a1 H := by kernel_rfl

theorem c_def_Good_3 {a0 a1 : AV} {H : Hp} {r : AV × Hp} (h : s_def_Good_3 JN GO cK a0 a1 H = some r) : cK (.func (.func 35) [] []) [a0, a1] H = some r := callF_fix (first := []) (cap := []) ((e_def_Good_3 JN GO _ a0 a1 H).trans h)

noncomputable def s_def_Good_4 (J : JT) (G : GT) (cf : CF) (a0 a1 a2 : AV) (H : Hp) : R :=
 BN (bx 43 a1 H) fun i0 h1 =>
 B1 (lda 1 a2 h1) fun v2 =>
 B1 (fa 1 (.ptr i0 0)) fun v3 =>
 B1 (ld v3 h1) fun v4 =>
 B2 (cf (.func (.func 37) [] []) [v2, a0, v4] h1) fun v5 h6 =>
 B1 (unA .not v5) fun v7 =>
 some (v7, h6)

theorem e_def_Good_4 (J : JT) (G : GT) (cf : CF) (a0 a1 a2 : AV) (H : Hp) : callF P J G prim an cf 36 [a0, a1, a2] H = s_def_Good_4 J G cf a0 a1 a2 H := by kernel_rfl

theorem c_def_Good_4 {a0 a1 a2 : AV} {H : Hp} {r : AV × Hp} (h : s_def_Good_4 JN GO cK a0 a1 a2 H = some r) : cK (.func (.func 36) [] [a2]) [a0, a1] H = some r := callF_fix (first := []) (cap := [a2]) ((e_def_Good_4 JN GO _ a0 a1 a2 H).trans h)

noncomputable def bl__def_Def_after (J : JT) (G : GT) (cf : CF) (j4 : K.Fn 0) (j5 : K.Fn 6) (x6 x7 x8 x9 x10 x11 : AV) (h12 : Hp) : R :=
 B1 (ilt x11 x10) fun v13 =>
 CD v13 (
 J 6 (fun j14 =>
 J 8 (fun j15 =>
 B1 (ia 1 x9 x11) fun v16 =>
 B1 (ld v16 h12) fun v17 =>
 j15 x6 x7 x8 x11 v17 x9 x10 x11 h12) (fun x18 x19 x20 x21 x22 x23 x24 x25 h26 =>
 J 7 (fun j27 =>
 B1 (fa 0 x20) fun v28 =>
 B1 (ld v28 h26) fun v29 =>
 B1 (lenx v29) fun v30 =>
 B1 (isub v30 (.int .i64 1)) fun v31 =>
 B2 (cf (.func (.func 32) [] []) [x22, (.int .i64 0), v31] h26) fun v32 h33 =>
 B1 (unA .not v32) fun v34 =>
 G v34 false (fun k35 =>
 k35 x22 h33) (fun v36 h37 =>
 G v34 false (fun k38 =>
 k38 x18 h37) (fun v39 h40 =>
 G v34 false (fun k41 =>
 B1 (ieq v36 v39) fun v42 =>
 k41 v42 h40) (fun v43 h44 =>
 B1 (pk v34 (.bool true) v43) fun v45 =>
 G v45 false (fun k46 =>
 k46 x19 h44) (fun v47 h48 =>
 G v45 false (fun k49 =>
 k49 x21 h48) (fun v50 h51 =>
 G v45 false (fun k52 =>
 B1 (sll 1 v47 none (some v50) none) fun v53 =>
 k52 v53 h51) (fun v54 h55 =>
 G v45 false (fun k56 =>
 k56 x22 h55) (fun v57 h58 =>
 G v45 false (fun k59 =>
 B2 (cf (.func (.func 51) [] []) [v54, v57] h58) fun v60 h61 =>
 k59 v60 h61) (fun v62 h63 =>
 B1 (pk v45 (.bool true) v62) fun v64 =>
 j27 x18 x19 x20 x23 x24 x25 v64 h63) h58) h55) h51) h48) h44) h40) h37) h33) (fun x65 x66 x67 x68 x69 x70 x71 h72 =>
 CD x71 (
 some ((.bool false), h72)) (
 j14 x65 x66 x67 x68 x69 x70 h72)))) (fun x73 x74 x75 x76 x77 x78 h79 =>
 B1 (iadd x78 (.int .i64 1)) fun v80 =>
 j5 x73 x74 x75 x76 x77 v80 h79)) (
 j4  h12)

noncomputable def l__def_Def_after (J : JT) (G : GT) (cf : CF) (j4 : K.Fn 0) : K.Fn 6 := lpF P an J G cf 37 [1, 0, 1, 0, 0] [1, 2, 3, 9, 10, 11] (fun q t H => match Nat.beq q 0 with | true => app 0 j4 (vals [] t) H | false => (fun _ _ _ => none) q t H)

theorem rl__def_Def_after (J : JT) (G : GT) (cf : CF) (j4 : K.Fn 0) (j5 : K.Fn 6) (x6 x7 x8 x9 x10 x11 : AV) (h12 : Hp) : lpB P an J G cf 37 [1, 0, 1, 0, 0] [1, 2, 3, 9, 10, 11] (fun q t H => match Nat.beq q 0 with | true => app 0 j4 (vals [] t) H | false => (fun _ _ _ => none) q t H) j5 [x6, x7, x8, x9, x10, x11] h12 = bl__def_Def_after J G cf j4 j5 x6 x7 x8 x9 x10 x11 h12 := by kernel_rfl

theorem ql__def_Def_after (cf : CF) (j4 : K.Fn 0) (x6 x7 x8 x9 x10 x11 : AV) (h12 : Hp) : l__def_Def_after JN GO cf j4 x6 x7 x8 x9 x10 x11 h12 = bl__def_Def_after JN GO cf j4 (l__def_Def_after JN GO cf j4) x6 x7 x8 x9 x10 x11 h12 := Eq.trans (b := app 6 (l__def_Def_after JN GO cf j4) [x6, x7, x8, x9, x10, x11] h12) (by kernel_rfl) ((lpQ cf _ _ _ _ [x6, x7, x8, x9, x10, x11] rfl h12).trans (rl__def_Def_after JN GO cf j4 _ x6 x7 x8 x9 x10 x11 h12))

noncomputable def s__def_Def_after (J : JT) (G : GT) (cf : CF) (a0 a1 a2 : AV) (H : Hp) : R :=
 BN (bx 25 a0 H) fun i0 h1 =>
 J 0 (fun j2 =>
 B1 (lenx a2) fun v3 =>
 J 0 (fun j4 =>
 l__def_Def_after J G cf j4 a1 a2 (.ptr i0 0) a2 v3 (.int .i64 0) h1) (fun  h81 =>
 j2  h81)) (fun  h82 =>
 some ((.bool true), h82))

theorem e__def_Def_after (J : JT) (G : GT) (cf : CF) (a0 a1 a2 : AV) (H : Hp) : callF P J G prim an cf 37 [a0, a1, a2] H = s__def_Def_after J G cf a0 a1 a2 H := by kernel_rfl

theorem c__def_Def_after {a0 a1 a2 : AV} {H : Hp} {r : AV × Hp} (h : s__def_Def_after JN GO cK a0 a1 a2 H = some r) : cK (.func (.func 37) [] []) [a0, a1, a2] H = some r := callF_fix (first := []) (cap := []) ((e__def_Def_after JN GO _ a0 a1 a2 H).trans h)

noncomputable def bl_def_Graph1 (J : JT) (G : GT) (cf : CF) (j20 : K.Fn 2) (j31 : K.Fn 6) (j50 : K.Fn 6) (j51 : K.Fn 10) (x52 x53 x54 x55 x56 x57 x58 x59 x60 x61 : AV) (h62 : Hp) : R :=
 B1 (ilt x61 x60) fun v63 =>
 CD v63 (
 J 10 (fun j64 =>
 J 10 (fun j65 =>
 B1 (ia 1 x59 x61) fun v66 =>
 B1 (ld v66 h62) fun v67 =>
 J 12 (fun j68 =>
 B1 (fl [(.int .i64 0), (.int .i64 0)] [(0, 1, v67), (1, 1, x55)]) fun l69 =>
 BN (newCells h62 [(.int .i64 0), (.int .i64 0)] 83 0) fun i70 h71 =>
 B1 (st 2 (.ptr i70 0) (.agg l69) h71) fun h72 =>
 j68 x52 x53 x54 x55 v67 (.ptr i70 0) x56 x57 x58 x59 x60 x61 h72) (fun x73 x74 x75 x76 x77 x78 x79 x80 x81 x82 x83 x84 h85 =>
 J 12 (fun j86 =>
 B1 (fa 0 x73) fun v87 =>
 B1 (ld v87 h85) fun v88 =>
 B1 (lenx v88) fun v89 =>
 B1 (isub v89 (.int .i64 1)) fun v90 =>
 B2 (cf (.func (.func 32) [] []) [x77, (.int .i64 0), v90] h85) fun v91 h92 =>
 G v91 true (fun k93 =>
 k93 x77 h92) (fun v94 h95 =>
 G v91 true (fun k96 =>
 k96 x76 h95) (fun v97 h98 =>
 G v91 true (fun k99 =>
 B1 (ine v94 v97) fun v100 =>
 k99 v100 h98) (fun v101 h102 =>
 B1 (pk v91 v101 (.bool false)) fun v103 =>
 G v103 true (fun k104 =>
 B1 (fa 1 x75) fun v105 =>
 k104 v105 h102) (fun v106 h107 =>
 G v103 true (fun k108 =>
 B1 (ld v106 h107) fun v109 =>
 k108 v109 h107) (fun v110 h111 =>
 G v103 true (fun k112 =>
 B1 (lda 2 x78 h111) fun v113 =>
 k112 v113 h111) (fun v114 h115 =>
 G v103 true (fun k116 =>
 B2 (cf (.func (.func 42) [] []) [v110, v114] h115) fun v117 h118 =>
 k116 v117 h118) (fun v119 h120 =>
 G v103 true (fun k121 =>
 B1 (unA .not v119) fun v122 =>
 k121 v122 h120) (fun v123 h124 =>
 B1 (pk v103 v123 (.bool false)) fun v125 =>
 j86 x73 x74 x75 x76 x78 x79 x80 x81 x82 x83 x84 v125 h124) h120) h115) h111) h107) h102) h98) h95) h92) (fun x126 x127 x128 x129 x130 x131 x132 x133 x134 x135 x136 x137 h138 =>
 CD x137 (
 B1 (fa 1 x128) fun v139 =>
 B1 (ld v139 h138) fun v140 =>
 B1 (lda 2 x130 h138) fun v141 =>
 B1 (fl [(.int .i64 0), (.int .i64 0)] [(0, 2, v141)]) fun l142 =>
 BN (newCells h138 l142 83 0) fun i143 h144 =>
 B2 (app' 83 2 [(.int .i64 0), (.int .i64 0)] false v140 (.slice i143 0 1 1 true 2) h144) fun v145 h146 =>
 B1 (fa 1 x128) fun v147 =>
 B1 (st 1 v147 v145 h146) fun h148 =>
 j65 x126 x127 x128 x129 x131 x132 x133 x134 x135 x136 h148) (
 j65 x126 x127 x128 x129 x131 x132 x133 x134 x135 x136 h138)))) (fun x149 x150 x151 x152 x153 x154 x155 x156 x157 x158 h159 =>
 j64 x149 x150 x151 x152 x153 x154 x155 x156 x157 x158 h159)) (fun x160 x161 x162 x163 x164 x165 x166 x167 x168 x169 h170 =>
 B1 (iadd x169 (.int .i64 1)) fun v171 =>
 j51 x160 x161 x162 x163 x164 x165 x166 x167 x168 v171 h170)) (
 j50 x52 x53 x54 x56 x57 x58 h62)

noncomputable def l_def_Graph1 (J : JT) (G : GT) (cf : CF) (j20 : K.Fn 2) (j31 : K.Fn 6) (j50 : K.Fn 6) : K.Fn 10 := lpF P an J G cf 15 [1, 1, 0, 1, 0, 0, 1, 1, 0, 0, 1, 1, 0, 0] [1, 2, 3, 4, 14, 15, 16, 22, 23, 24] (fun q t H => match Nat.beq q 2 with | true => app 6 j50 (vals [1, 2, 3, 14, 15, 16] t) H | false => (fun q t H => match Nat.beq q 1 with | true => app 6 j31 (vals [1, 2, 3, 14, 15, 16] t) H | false => (fun q t H => match Nat.beq q 0 with | true => app 2 j20 (vals [2, 3] t) H | false => (fun _ _ _ => none) q t H) q t H) q t H)

theorem rl_def_Graph1 (J : JT) (G : GT) (cf : CF) (j20 : K.Fn 2) (j31 : K.Fn 6) (j50 : K.Fn 6) (j51 : K.Fn 10) (x52 x53 x54 x55 x56 x57 x58 x59 x60 x61 : AV) (h62 : Hp) : lpB P an J G cf 15 [1, 1, 0, 1, 0, 0, 1, 1, 0, 0, 1, 1, 0, 0] [1, 2, 3, 4, 14, 15, 16, 22, 23, 24] (fun q t H => match Nat.beq q 2 with | true => app 6 j50 (vals [1, 2, 3, 14, 15, 16] t) H | false => (fun q t H => match Nat.beq q 1 with | true => app 6 j31 (vals [1, 2, 3, 14, 15, 16] t) H | false => (fun q t H => match Nat.beq q 0 with | true => app 2 j20 (vals [2, 3] t) H | false => (fun _ _ _ => none) q t H) q t H) q t H) j51 [x52, x53, x54, x55, x56, x57, x58, x59, x60, x61] h62 = bl_def_Graph1 J G cf j20 j31 j50 j51 x52 x53 x54 x55 x56 x57 x58 x59 x60 x61 h62 := by kernel_rfl

theorem ql_def_Graph1 (cf : CF) (j20 : K.Fn 2) (j31 : K.Fn 6) (j50 : K.Fn 6) (x52 x53 x54 x55 x56 x57 x58 x59 x60 x61 : AV) (h62 : Hp) : l_def_Graph1 JN GO cf j20 j31 j50 x52 x53 x54 x55 x56 x57 x58 x59 x60 x61 h62 = bl_def_Graph1 JN GO cf j20 j31 j50 (l_def_Graph1 JN GO cf j20 j31 j50) x52 x53 x54 x55 x56 x57 x58 x59 x60 x61 h62 := Eq.trans (b := app 10 (l_def_Graph1 JN GO cf j20 j31 j50) [x52, x53, x54, x55, x56, x57, x58, x59, x60, x61] h62) (by kernel_rfl) ((lpQ cf _ _ _ _ [x52, x53, x54, x55, x56, x57, x58, x59, x60, x61] rfl h62).trans (rl_def_Graph1 JN GO cf j20 j31 j50 _ x52 x53 x54 x55 x56 x57 x58 x59 x60 x61 h62))

noncomputable def bl_def_Graph (J : JT) (G : GT) (cf : CF) (j20 : K.Fn 2) (j21 : K.Fn 6) (x22 x23 x24 x25 x26 x27 : AV) (h28 : Hp) : R :=
 B1 (ilt x27 x26) fun v29 =>
 CD v29 (
 J 6 (fun j30 =>
 J 6 (fun j31 =>
 J 8 (fun j32 =>
 B1 (ia 6 x25 x27) fun v33 =>
 B1 (lda 6 v33 h28) fun v34 =>
 BN (newCells h28 [(.str []), .slice0, (.int .i64 0), (.int .i64 0), (.int .i64 0), (.str [])] 43 0) fun i35 h36 =>
 B1 (st 6 (.ptr i35 0) v34 h36) fun h37 =>
 j32 x22 x23 x24 x27 (.ptr i35 0) x25 x26 x27 h37) (fun x38 x39 x40 x41 x42 x43 x44 x45 h46 =>
 B1 (fa 1 x42) fun v47 =>
 B1 (ld v47 h46) fun v48 =>
 B1 (lenx v48) fun v49 =>
 J 6 (fun j50 =>
 l_def_Graph1 J G cf j20 j31 j50 x38 x39 x40 x41 x43 x44 x45 v48 v49 (.int .i64 0) h46) (fun x172 x173 x174 x175 x176 x177 h178 =>
 j31 x172 x173 x174 x175 x176 x177 h178))) (fun x179 x180 x181 x182 x183 x184 h185 =>
 j30 x179 x180 x181 x182 x183 x184 h185)) (fun x186 x187 x188 x189 x190 x191 h192 =>
 B1 (iadd x191 (.int .i64 1)) fun v193 =>
 j21 x186 x187 x188 x189 x190 v193 h192)) (
 j20 x23 x24 h28)

noncomputable def l_def_Graph (J : JT) (G : GT) (cf : CF) (j20 : K.Fn 2) : K.Fn 6 := lpF P an J G cf 15 [1, 1, 0, 1, 0, 0] [1, 2, 3, 14, 15, 16] (fun q t H => match Nat.beq q 0 with | true => app 2 j20 (vals [2, 3] t) H | false => (fun _ _ _ => none) q t H)

theorem rl_def_Graph (J : JT) (G : GT) (cf : CF) (j20 : K.Fn 2) (j21 : K.Fn 6) (x22 x23 x24 x25 x26 x27 : AV) (h28 : Hp) : lpB P an J G cf 15 [1, 1, 0, 1, 0, 0] [1, 2, 3, 14, 15, 16] (fun q t H => match Nat.beq q 0 with | true => app 2 j20 (vals [2, 3] t) H | false => (fun _ _ _ => none) q t H) j21 [x22, x23, x24, x25, x26, x27] h28 = bl_def_Graph J G cf j20 j21 x22 x23 x24 x25 x26 x27 h28 := by kernel_rfl

theorem ql_def_Graph (cf : CF) (j20 : K.Fn 2) (x22 x23 x24 x25 x26 x27 : AV) (h28 : Hp) : l_def_Graph JN GO cf j20 x22 x23 x24 x25 x26 x27 h28 = bl_def_Graph JN GO cf j20 (l_def_Graph JN GO cf j20) x22 x23 x24 x25 x26 x27 h28 := Eq.trans (b := app 6 (l_def_Graph JN GO cf j20) [x22, x23, x24, x25, x26, x27] h28) (by kernel_rfl) ((lpQ cf _ _ _ _ [x22, x23, x24, x25, x26, x27] rfl h28).trans (rl_def_Graph JN GO cf j20 _ x22 x23 x24 x25 x26 x27 h28))

noncomputable def s_def_Graph (J : JT) (G : GT) (cf : CF) (a0 : AV) (H : Hp) : R :=
 BN (bx 25 a0 H) fun i0 h1 =>
 BN (newCells h1 [(.int .i64 0), .slice0] 39 0) fun i2 h3 =>
 J 3 (fun j4 =>
 B1 (fa 0 (.ptr i0 0)) fun v5 =>
 B1 (ld v5 h3) fun v6 =>
 B1 (lenx v6) fun v7 =>
 B1 (fl [(.int .i64 0), .slice0] [(0, 1, v7)]) fun l8 =>
 BN (newCells h3 [(.int .i64 0), .slice0] 39 0) fun i9 h10 =>
 B1 (st 2 (.ptr i9 0) (.agg l8) h10) fun h11 =>
 j4 (.ptr i0 0) (.ptr i2 0) (.ptr i9 0) h11) (fun x12 x13 x14 h15 =>
 J 2 (fun j16 =>
 B1 (fa 0 x12) fun v17 =>
 B1 (ld v17 h15) fun v18 =>
 B1 (lenx v18) fun v19 =>
 J 2 (fun j20 =>
 l_def_Graph J G cf j20 x12 x13 x14 v18 v19 (.int .i64 0) h15) (fun x194 x195 h196 =>
 j16 x194 x195 h196)) (fun x197 x198 h199 =>
 B1 (lda 2 x198 h199) fun v200 =>
 B1 (st 2 x197 v200 h199) fun h201 =>
 B1 (lda 2 x197 h201) fun v202 =>
 some (v202, h201)))

theorem e_def_Graph (J : JT) (G : GT) (cf : CF) (a0 : AV) (H : Hp) : callF P J G prim an cf 15 [a0] H = s_def_Graph J G cf a0 H := by kernel_rfl

theorem c_def_Graph {a0 : AV} {H : Hp} {r : AV × Hp} (h : s_def_Graph JN GO cK a0 H = some r) : cK (.func (.func 15) [] []) [a0] H = some r := callF_fix (first := []) (cap := []) ((e_def_Graph JN GO _ a0 H).trans h)

noncomputable def s_run_New (J : JT) (G : GT) (cf : CF) (a0 : AV) (H : Hp) : R :=
 BN (bx 25 a0 H) fun i0 h1 =>
 BN (newCells h1 [.slice0, (.int .i64 0), .slice0, .slice0] 47 0) fun i2 h3 =>
 J 2 (fun j4 =>
 B1 (lda 1 (.ptr i0 0) h3) fun v5 =>
 B2 (cf (.func (.func 11) [] []) [v5] h3) fun v6 h7 =>
 B1 (ine v6 (.int .i64 0)) fun v8 =>
 CD v8 (
 B1 (fl [.slice0, (.int .i64 0), .slice0, .slice0] []) fun l9 =>
 B1 (st 4 (.ptr i2 0) (.agg l9) h7) fun h10 =>
 B1 (lda 4 (.ptr i2 0) h10) fun v11 =>
 some (.tuple [v11, v6], h10)) (
 j4 (.ptr i0 0) (.ptr i2 0) h7)) (fun x12 x13 h14 =>
 J 2 (fun j15 =>
 B1 (lda 1 x12 h14) fun v16 =>
 B1 (fa 0 x12) fun v17 =>
 B1 (ld v17 h14) fun v18 =>
 B1 (lenx v18) fun v19 =>
 B2 (mks [(.int .i64 0), (.int .i64 0), (.int .i64 0), (.str [])] 51 4 v19 v19 h14) fun v20 h21 =>
 B1 (fl [.slice0, (.int .i64 0), .slice0, .slice0] [(0, 1, v16), (2, 1, v20)]) fun l22 =>
 B2 (cf (.func (.func 44) [] []) [(.agg l22)] h21) fun v23 h24 =>
 BN (newCells h24 [.slice0, (.int .i64 0), .slice0, .slice0] 47 0) fun i25 h26 =>
 B1 (st 4 (.ptr i25 0) v23 h26) fun h27 =>
 B1 (lda 1 x12 h21) fun v28 =>
 SM v16 v28 <|
 j15 x13 (.ptr i25 0) h27) (fun x29 x30 h31 =>
 B2 (cf (.func (.func 45) [] []) [x30] h31) fun v32 h33 =>
 B1 (lda 4 x30 h33) fun v34 =>
 B1 (st 4 x29 v34 h33) fun h35 =>
 B1 (lda 4 x29 h35) fun v36 =>
 some (.tuple [v36, (.int .i64 0)], h35)))

theorem e_run_New (J : JT) (G : GT) (cf : CF) (a0 : AV) (H : Hp) : callF P J G prim an cf 17 [a0] H = s_run_New J G cf a0 H := by kernel_rfl

theorem c_run_New {a0 : AV} {H : Hp} {r : AV × Hp} (h : s_run_New JN GO cK a0 H = some r) : cK (.func (.func 17) [] []) [a0] H = some r := callF_fix (first := []) (cap := []) ((e_run_New JN GO _ a0 H).trans h)

noncomputable def bl__run_Run_clone (J : JT) (G : GT) (cf : CF) (j28 : K.Fn 2) (j29 : K.Fn 5) (x30 x31 x32 x33 x34 : AV) (h35 : Hp) : R :=
 B1 (ilt x34 x33) fun v36 =>
 CD v36 (
 J 5 (fun j37 =>
 J 7 (fun j38 =>
 B1 (ia 6 x32 x34) fun v39 =>
 B1 (lda 6 v39 h35) fun v40 =>
 BN (newCells h35 [(.str []), .slice0, (.int .i64 0), (.int .i64 0), (.int .i64 0), (.str [])] 43 0) fun i41 h42 =>
 B1 (st 6 (.ptr i41 0) v40 h42) fun h43 =>
 j38 x30 x31 x34 (.ptr i41 0) x32 x33 x34 h43) (fun x44 x45 x46 x47 x48 x49 x50 h51 =>
 B1 (fa 0 x44) fun v52 =>
 B1 (fa 0 v52) fun v53 =>
 B1 (ld v53 h51) fun v54 =>
 B1 (fa 1 x47) fun v55 =>
 B1 (ld v55 h51) fun v56 =>
 B2 (cf (.func (.func 75) [] []) [v56] h51) fun v57 h58 =>
 B1 (ia 6 v54 x46) fun v59 =>
 B1 (fa 1 v59) fun v60 =>
 B1 (st 1 v60 v57 h58) fun h61 =>
 B1 (ld v53 h58) fun v62 =>
 SM v54 v62 <|
 j37 x44 x45 x48 x49 x50 h61)) (fun x63 x64 x65 x66 x67 h68 =>
 B1 (iadd x67 (.int .i64 1)) fun v69 =>
 j29 x63 x64 x65 x66 v69 h68)) (
 j28 x30 x31 h35)

noncomputable def l__run_Run_clone (J : JT) (G : GT) (cf : CF) (j28 : K.Fn 2) : K.Fn 5 := lpF P an J G cf 44 [1, 1, 0, 1, 0, 0] [1, 2, 13, 14, 15] (fun q t H => match Nat.beq q 0 with | true => app 2 j28 (vals [1, 2] t) H | false => (fun _ _ _ => none) q t H)

theorem rl__run_Run_clone (J : JT) (G : GT) (cf : CF) (j28 : K.Fn 2) (j29 : K.Fn 5) (x30 x31 x32 x33 x34 : AV) (h35 : Hp) : lpB P an J G cf 44 [1, 1, 0, 1, 0, 0] [1, 2, 13, 14, 15] (fun q t H => match Nat.beq q 0 with | true => app 2 j28 (vals [1, 2] t) H | false => (fun _ _ _ => none) q t H) j29 [x30, x31, x32, x33, x34] h35 = bl__run_Run_clone J G cf j28 j29 x30 x31 x32 x33 x34 h35 := by kernel_rfl

theorem ql__run_Run_clone (cf : CF) (j28 : K.Fn 2) (x30 x31 x32 x33 x34 : AV) (h35 : Hp) : l__run_Run_clone JN GO cf j28 x30 x31 x32 x33 x34 h35 = bl__run_Run_clone JN GO cf j28 (l__run_Run_clone JN GO cf j28) x30 x31 x32 x33 x34 h35 := Eq.trans (b := app 5 (l__run_Run_clone JN GO cf j28) [x30, x31, x32, x33, x34] h35) (by kernel_rfl) ((lpQ cf _ _ _ _ [x30, x31, x32, x33, x34] rfl h35).trans (rl__run_Run_clone JN GO cf j28 _ x30 x31 x32 x33 x34 h35))

noncomputable def s__run_Run_clone (J : JT) (G : GT) (cf : CF) (a0 : AV) (H : Hp) : R :=
 BN (bx 47 a0 H) fun i0 h1 =>
 BN (newCells h1 [.slice0, (.int .i64 0), .slice0, .slice0] 47 0) fun i2 h3 =>
 J 2 (fun j4 =>
 B1 (fa 0 (.ptr i0 0)) fun v5 =>
 B1 (fa 0 v5) fun v6 =>
 B1 (ld v6 h3) fun v7 =>
 B2 (cf (.func (.func 74) [] []) [v7] h3) fun v8 h9 =>
 B1 (fa 0 (.ptr i0 0)) fun v10 =>
 B1 (fa 0 v10) fun v11 =>
 B1 (st 1 v11 v8 h9) fun h12 =>
 j4 (.ptr i0 0) (.ptr i2 0) h12) (fun x13 x14 h15 =>
 J 2 (fun j16 =>
 J 5 (fun j17 =>
 B1 (fa 0 x13) fun v18 =>
 B1 (fa 0 v18) fun v19 =>
 B1 (ld v19 h15) fun v20 =>
 B1 (lenx v20) fun v21 =>
 j17 x13 x14 v20 v21 (.int .i64 0) h15) (fun x22 x23 x24 x25 x26 h27 =>
 J 2 (fun j28 =>
 l__run_Run_clone J G cf j28 x22 x23 x24 x25 x26 h27) (fun x70 x71 h72 =>
 j16 x70 x71 h72))) (fun x73 x74 h75 =>
 J 2 (fun j76 =>
 B1 (fa 2 x73) fun v77 =>
 B1 (ld v77 h75) fun v78 =>
 B2 (cf (.func (.func 76) [] []) [v78] h75) fun v79 h80 =>
 B1 (fa 2 x73) fun v81 =>
 B1 (st 1 v81 v79 h80) fun h82 =>
 j76 x73 x74 h82) (fun x83 x84 h85 =>
 J 2 (fun j86 =>
 B1 (fa 3 x83) fun v87 =>
 B1 (ld v87 h85) fun v88 =>
 B2 (cf (.func (.func 77) [] []) [v88] h85) fun v89 h90 =>
 B1 (fa 3 x83) fun v91 =>
 B1 (st 1 v91 v89 h90) fun h92 =>
 j86 x83 x84 h92) (fun x93 x94 h95 =>
 B1 (lda 4 x93 h95) fun v96 =>
 B1 (st 4 x94 v96 h95) fun h97 =>
 B1 (lda 4 x94 h97) fun v98 =>
 some (v98, h97)))))

theorem e__run_Run_clone (J : JT) (G : GT) (cf : CF) (a0 : AV) (H : Hp) : callF P J G prim an cf 44 [a0] H = s__run_Run_clone J G cf a0 H := by kernel_rfl

theorem c__run_Run_clone {a0 : AV} {H : Hp} {r : AV × Hp} (h : s__run_Run_clone JN GO cK a0 H = some r) : cK (.func (.func 44) [] []) [a0] H = some r := callF_fix (first := []) (cap := []) ((e__run_Run_clone JN GO _ a0 H).trans h)

noncomputable def bl_run_Run_settle (J : JT) (G : GT) (cf : CF) (j16 : K.Fn 2) (j17 : K.Fn 5) (x18 x19 x20 x21 x22 : AV) (h23 : Hp) : R :=
 B1 (ilt x22 x21) fun v24 =>
 CD v24 (
 J 5 (fun j25 =>
 J 7 (fun j26 =>
 B1 (ia 6 x20 x22) fun v27 =>
 B1 (lda 6 v27 h23) fun v28 =>
 BN (newCells h23 [(.str []), .slice0, (.int .i64 0), (.int .i64 0), (.int .i64 0), (.str [])] 43 0) fun i29 h30 =>
 B1 (st 6 (.ptr i29 0) v28 h30) fun h31 =>
 j26 x18 x19 x22 (.ptr i29 0) x20 x21 x22 h31) (fun x32 x33 x34 x35 x36 x37 x38 h39 =>
 J 8 (fun j40 =>
 B1 (fa 1 x35) fun v41 =>
 B1 (ld v41 h39) fun v42 =>
 B2 (cf (.func (.func 48) [] []) [v42, (.func (.func 78) [] [x32])] h39) fun v43 h44 =>
 j40 x32 x33 x34 x35 v43 x36 x37 x38 h44) (fun x45 x46 x47 x48 x49 x50 x51 x52 h53 =>
 J 6 (fun j54 =>
 J 7 (fun j55 =>
 B1 (ld x45 h53) fun v56 =>
 B1 (nilA v56) fun v57 =>
 B1 (fa 2 v57) fun v58 =>
 B1 (ld v58 h53) fun v59 =>
 B1 (ia 4 v59 x47) fun v60 =>
 B1 (fa 0 v60) fun v61 =>
 B1 (ld v61 h53) fun v62 =>
 B1 (ieq v62 (.int .i64 0)) fun v63 =>
 GD2 v63 true (
 B1 (unA .not x49) fun v64 =>
 GD2 v64 true (
 B1 (fa 5 x48) fun v65 =>
 B1 (ld v65 h53) fun v66 =>
 B1 (seq v66 (.str [])) fun v67 =>
 GD2 v67 false (
 B1 (ld x45 h53) fun v68 =>
 B1 (nilA v68) fun v69 =>
 B1 (fa 3 v69) fun v70 =>
 B1 (ld v70 h53) fun v71 =>
 B1 (fa 5 x48) fun v72 =>
 B1 (ld v72 h53) fun v73 =>
 B2 (cf (.func (.func 58) [] []) [v71, v73] h53) fun v74 h75 =>
 j55 x45 x46 x47 x50 x51 x52 v74 h75) (
 j55 x45 x46 x47 x50 x51 x52 (.bool true) h53)) (
 j55 x45 x46 x47 x50 x51 x52 (.bool false) h53)) (
 j55 x45 x46 x47 x50 x51 x52 (.bool false) h53)) (fun x76 x77 x78 x79 x80 x81 x82 h83 =>
 CD x82 (
 B1 (ld x76 h83) fun v84 =>
 B1 (nilA v84) fun v85 =>
 B1 (fa 2 v85) fun v86 =>
 B1 (ld v86 h83) fun v87 =>
 B1 (ia 4 v87 x78) fun v88 =>
 B1 (fa 0 v88) fun v89 =>
 B1 (st 1 v89 (.int .i64 1) h83) fun h90 =>
 j54 x76 x77 x78 x79 x80 x81 h90) (
 j54 x76 x77 x78 x79 x80 x81 h83))) (fun x91 x92 x93 x94 x95 x96 h97 =>
 G x92 true (fun k98 =>
 B1 (ld x91 h97) fun v99 =>
 k98 v99 h97) (fun v100 h101 =>
 G x92 true (fun k102 =>
 B1 (nilA v100) fun v103 =>
 k102 v103 h101) (fun v104 h105 =>
 G x92 true (fun k106 =>
 B1 (fa 2 v104) fun v107 =>
 k106 v107 h105) (fun v108 h109 =>
 G x92 true (fun k110 =>
 B1 (ld v108 h109) fun v111 =>
 k110 v111 h109) (fun v112 h113 =>
 G x92 true (fun k114 =>
 k114 x93 h113) (fun v115 h116 =>
 G x92 true (fun k117 =>
 B1 (ia 4 v112 v115) fun v118 =>
 k117 v118 h116) (fun v119 h120 =>
 G x92 true (fun k121 =>
 B1 (fa 0 v119) fun v122 =>
 k121 v122 h120) (fun v123 h124 =>
 G x92 true (fun k125 =>
 B1 (ld v123 h124) fun v126 =>
 k125 v126 h124) (fun v127 h128 =>
 G x92 true (fun k129 =>
 B1 (ieq v127 (.int .i64 3)) fun v130 =>
 k129 v130 h128) (fun v131 h132 =>
 B1 (pk x92 v131 (.bool false)) fun v133 =>
 j25 x91 v133 x94 x95 x96 h132) h128) h124) h120) h116) h113) h109) h105) h101) h97)))) (fun x134 x135 x136 x137 x138 h139 =>
 B1 (iadd x138 (.int .i64 1)) fun v140 =>
 j17 x134 x135 x136 x137 v140 h139)) (
 j16 x18 x19 h23)

noncomputable def l_run_Run_settle (J : JT) (G : GT) (cf : CF) (j16 : K.Fn 2) : K.Fn 5 := lpF P an J G cf 45 [1, 1, 0, 1, 0, 0] [1, 2, 10, 11, 12] (fun q t H => match Nat.beq q 0 with | true => app 2 j16 (vals [1, 2] t) H | false => (fun _ _ _ => none) q t H)

theorem rl_run_Run_settle (J : JT) (G : GT) (cf : CF) (j16 : K.Fn 2) (j17 : K.Fn 5) (x18 x19 x20 x21 x22 : AV) (h23 : Hp) : lpB P an J G cf 45 [1, 1, 0, 1, 0, 0] [1, 2, 10, 11, 12] (fun q t H => match Nat.beq q 0 with | true => app 2 j16 (vals [1, 2] t) H | false => (fun _ _ _ => none) q t H) j17 [x18, x19, x20, x21, x22] h23 = bl_run_Run_settle J G cf j16 j17 x18 x19 x20 x21 x22 h23 := by kernel_rfl

theorem ql_run_Run_settle (cf : CF) (j16 : K.Fn 2) (x18 x19 x20 x21 x22 : AV) (h23 : Hp) : l_run_Run_settle JN GO cf j16 x18 x19 x20 x21 x22 h23 = bl_run_Run_settle JN GO cf j16 (l_run_Run_settle JN GO cf j16) x18 x19 x20 x21 x22 h23 := Eq.trans (b := app 5 (l_run_Run_settle JN GO cf j16) [x18, x19, x20, x21, x22] h23) (by kernel_rfl) ((lpQ cf _ _ _ _ [x18, x19, x20, x21, x22] rfl h23).trans (rl_run_Run_settle JN GO cf j16 _ x18 x19 x20 x21 x22 h23))

noncomputable def s_run_Run_settle (J : JT) (G : GT) (cf : CF) (a0 : AV) (H : Hp) : R :=
 BN (bx 126 a0 H) fun i0 h1 =>
 J 2 (fun j2 =>
 J 5 (fun j3 =>
 B1 (ld (.ptr i0 0) h1) fun v4 =>
 B1 (nilA v4) fun v5 =>
 B1 (fa 0 v5) fun v6 =>
 B1 (fa 0 v6) fun v7 =>
 B1 (ld v7 h1) fun v8 =>
 B1 (lenx v8) fun v9 =>
 j3 (.ptr i0 0) (.bool true) v8 v9 (.int .i64 0) h1) (fun x10 x11 x12 x13 x14 h15 =>
 J 2 (fun j16 =>
 l_run_Run_settle J G cf j16 x10 x11 x12 x13 x14 h15) (fun x141 x142 h143 =>
 j2 x141 x142 h143))) (fun x144 x145 h146 =>
 CD x145 (
 B1 (ld x144 h146) fun v147 =>
 B1 (nilA v147) fun v148 =>
 B1 (fa 1 v148) fun v149 =>
 B1 (st 1 v149 (.int .i64 1) h146) fun h150 =>
 some (.tuple [], h150)) (
 some (.tuple [], h146)))

theorem e_run_Run_settle (J : JT) (G : GT) (cf : CF) (a0 : AV) (H : Hp) : callF P J G prim an cf 45 [a0] H = s_run_Run_settle J G cf a0 H := by kernel_rfl

theorem c_run_Run_settle {a0 : AV} {H : Hp} {r : AV × Hp} (h : s_run_Run_settle JN GO cK a0 H = some r) : cK (.func (.func 45) [] []) [a0] H = some r := callF_fix (first := []) (cap := []) ((e_run_Run_settle JN GO _ a0 H).trans h)

noncomputable def s_run_Run_settle_1 (J : JT) (G : GT) (cf : CF) (a0 a1 : AV) (H : Hp) : R :=
 B1 (ld a1 H) fun v0 =>
 B1 (nilA v0) fun v1 =>
 B1 (fa 2 v1) fun v2 =>
 B1 (ld v2 H) fun v3 =>
 B1 (ia 4 v3 a0) fun v4 =>
 B1 (fa 0 v4) fun v5 =>
 B1 (ld v5 H) fun v6 =>
 B1 (ine v6 (.int .i64 3)) fun v7 =>
 some (v7, H)

theorem e_run_Run_settle_1 (J : JT) (G : GT) (cf : CF) (a0 a1 : AV) (H : Hp) : callF P J G prim an cf 78 [a0, a1] H = s_run_Run_settle_1 J G cf a0 a1 H := by kernel_rfl

theorem c_run_Run_settle_1 {a0 a1 : AV} {H : Hp} {r : AV × Hp} (h : s_run_Run_settle_1 JN GO cK a0 a1 H = some r) : cK (.func (.func 78) [] [a1]) [a0] H = some r := callF_fix (first := []) (cap := [a1]) ((e_run_Run_settle_1 JN GO _ a0 a1 H).trans h)

noncomputable def s__run_Run_may (J : JT) (G : GT) (cf : CF) (a0 a1 : AV) (H : Hp) : R :=
 BN (bx 47 a0 H) fun i0 h1 =>
 J 0 (fun j2 =>
 J 2 (fun j3 =>
 B1 (ilt a1 (.int .i64 0)) fun v4 =>
 G v4 false (fun k5 =>
 k5 a1 h1) (fun v6 h7 =>
 G v4 false (fun k8 =>
 B1 (fa 2 (.ptr i0 0)) fun v9 =>
 k8 v9 h7) (fun v10 h11 =>
 G v4 false (fun k12 =>
 B1 (ld v10 h11) fun v13 =>
 k12 v13 h11) (fun v14 h15 =>
 G v4 false (fun k16 =>
 B1 (lenx v14) fun v17 =>
 k16 v17 h15) (fun v18 h19 =>
 G v4 false (fun k20 =>
 B1 (ige v6 v18) fun v21 =>
 k20 v21 h19) (fun v22 h23 =>
 B1 (pk v4 (.bool true) v22) fun v24 =>
 j3 (.ptr i0 0) v24 h23) h19) h15) h11) h7) h1) (fun x25 x26 h27 =>
 CD x26 (
 some ((.int .i64 1), h27)) (
 B1 (fa 1 x25) fun v28 =>
 B1 (ld v28 h27) fun v29 =>
 B1 (ine v29 (.int .i64 0)) fun v30 =>
 CD v30 (
 some ((.int .i64 9), h27)) (
 j2  h27)))) (fun  h31 =>
 some ((.int .i64 0), h31))

theorem e__run_Run_may (J : JT) (G : GT) (cf : CF) (a0 a1 : AV) (H : Hp) : callF P J G prim an cf 46 [a0, a1] H = s__run_Run_may J G cf a0 a1 H := by kernel_rfl

theorem c__run_Run_may {a0 a1 : AV} {H : Hp} {r : AV × Hp} (h : s__run_Run_may JN GO cK a0 a1 H = some r) : cK (.func (.func 46) [] []) [a0, a1] H = some r := callF_fix (first := []) (cap := []) ((e__run_Run_may JN GO _ a0 a1 H).trans h)

noncomputable def s__run_Run_held (J : JT) (G : GT) (cf : CF) (a0 a1 a2 : AV) (H : Hp) : R :=
 BN (bx 47 a0 H) fun i0 h1 =>
 J 3 (fun j2 =>
 B1 (lda 4 (.ptr i0 0) h1) fun v3 =>
 B2 (cf (.func (.func 46) [] []) [v3, a1] h1) fun v4 h5 =>
 B1 (ine v4 (.int .i64 0)) fun v6 =>
 CD v6 (
 some (v4, h5)) (
 j2 a1 a2 (.ptr i0 0) h5)) (fun x7 x8 x9 h10 =>
 J 0 (fun j11 =>
 J 2 (fun j12 =>
 B1 (fa 2 x9) fun v13 =>
 B1 (ld v13 h10) fun v14 =>
 B1 (ia 4 v14 x7) fun v15 =>
 B1 (lda 4 v15 h10) fun v16 =>
 BN (newCells h10 [(.int .i64 0), (.int .i64 0), (.int .i64 0), (.str [])] 51 0) fun i17 h18 =>
 B1 (st 4 (.ptr i17 0) v16 h18) fun h19 =>
 j12 x8 (.ptr i17 0) h19) (fun x20 x21 h22 =>
 J 1 (fun j23 =>
 B1 (fa 0 x21) fun v24 =>
 B1 (ld v24 h22) fun v25 =>
 B1 (ine v25 (.int .i64 2)) fun v26 =>
 G v26 false (fun k27 =>
 B1 (fa 1 x21) fun v28 =>
 k27 v28 h22) (fun v29 h30 =>
 G v26 false (fun k31 =>
 B1 (ld v29 h30) fun v32 =>
 k31 v32 h30) (fun v33 h34 =>
 G v26 false (fun k35 =>
 k35 x20 h34) (fun v36 h37 =>
 G v26 false (fun k38 =>
 B1 (ine v33 v36) fun v39 =>
 k38 v39 h37) (fun v40 h41 =>
 B1 (pk v26 (.bool true) v40) fun v42 =>
 j23 v42 h41) h37) h34) h30) h22) (fun x43 h44 =>
 CD x43 (
 some ((.int .i64 8), h44)) (
 j11  h44)))) (fun  h45 =>
 some ((.int .i64 0), h45)))

theorem e__run_Run_held (J : JT) (G : GT) (cf : CF) (a0 a1 a2 : AV) (H : Hp) : callF P J G prim an cf 47 [a0, a1, a2] H = s__run_Run_held J G cf a0 a1 a2 H := by kernel_rfl

theorem c__run_Run_held {a0 a1 a2 : AV} {H : Hp} {r : AV × Hp} (h : s__run_Run_held JN GO cK a0 a1 a2 H = some r) : cK (.func (.func 47) [] []) [a0, a1, a2] H = some r := callF_fix (first := []) (cap := []) ((e__run_Run_held JN GO _ a0 a1 a2 H).trans h)

noncomputable def s__run_Run_Lease (J : JT) (G : GT) (cf : CF) (a0 a1 a2 a3 : AV) (H : Hp) : R :=
 BN (bx 47 a0 H) fun i0 h1 =>
 BN (newCells h1 [.slice0, (.int .i64 0), .slice0, .slice0] 47 0) fun i2 h3 =>
 J 5 (fun j4 =>
 B1 (lda 4 (.ptr i0 0) h3) fun v5 =>
 B2 (cf (.func (.func 46) [] []) [v5, a1] h3) fun v6 h7 =>
 B1 (ine v6 (.int .i64 0)) fun v8 =>
 CD v8 (
 B1 (fl [.slice0, (.int .i64 0), .slice0, .slice0] []) fun l9 =>
 B1 (st 4 (.ptr i2 0) (.agg l9) h7) fun h10 =>
 B1 (lda 4 (.ptr i2 0) h10) fun v11 =>
 some (.tuple [v11, v6], h10)) (
 j4 a1 a2 a3 (.ptr i0 0) (.ptr i2 0) h7)) (fun x12 x13 x14 x15 x16 h17 =>
 J 6 (fun j18 =>
 B1 (fa 2 x15) fun v19 =>
 B1 (ld v19 h17) fun v20 =>
 B1 (ia 4 v20 x12) fun v21 =>
 B1 (lda 4 v21 h17) fun v22 =>
 BN (newCells h17 [(.int .i64 0), (.int .i64 0), (.int .i64 0), (.str [])] 51 0) fun i23 h24 =>
 B1 (st 4 (.ptr i23 0) v22 h24) fun h25 =>
 j18 x12 x13 x14 x15 x16 (.ptr i23 0) h25) (fun x26 x27 x28 x29 x30 x31 h32 =>
 J 6 (fun j33 =>
 B1 (fa 0 x31) fun v34 =>
 B1 (ld v34 h32) fun v35 =>
 B1 (ine v35 (.int .i64 1)) fun v36 =>
 CD v36 (
 B1 (fl [.slice0, (.int .i64 0), .slice0, .slice0] []) fun l37 =>
 B1 (st 4 x30 (.agg l37) h32) fun h38 =>
 B1 (lda 4 x30 h38) fun v39 =>
 some (.tuple [v39, (.int .i64 4)], h38)) (
 J 7 (fun j40 =>
 B1 (fa 1 x31) fun v41 =>
 B1 (ld v41 h32) fun v42 =>
 B1 (iadd v42 (.int .i64 1)) fun v43 =>
 B1 (ine x27 v43) fun v44 =>
 j40 x26 x27 x28 x29 x30 x31 v44 h32) (fun x45 x46 x47 x48 x49 x50 x51 h52 =>
 CD x51 (
 B1 (fl [.slice0, (.int .i64 0), .slice0, .slice0] []) fun l53 =>
 B1 (st 4 x49 (.agg l53) h52) fun h54 =>
 B1 (lda 4 x49 h54) fun v55 =>
 some (.tuple [v55, (.int .i64 8)], h54)) (
 j33 x45 x46 x47 x48 x49 x50 h52)))) (fun x56 x57 x58 x59 x60 x61 h62 =>
 B1 (lda 4 x59 h62) fun v63 =>
 B2 (cf (.func (.func 44) [] []) [v63] h62) fun v64 h65 =>
 B1 (st 4 x59 v64 h65) fun h66 =>
 J 4 (fun j67 =>
 B1 (fa 0 x59) fun v68 =>
 B1 (fa 0 v68) fun v69 =>
 B1 (ld v69 h66) fun v70 =>
 B1 (ia 6 v70 x56) fun v71 =>
 B1 (fa 3 v71) fun v72 =>
 B1 (ld v72 h66) fun v73 =>
 B1 (iadd x58 v73) fun v74 =>
 B1 (fa 0 x61) fun v75 =>
 B1 (st 1 v75 (.int .i64 2) h66) fun h76 =>
 B1 (fa 1 x61) fun v77 =>
 B1 (st 1 v77 x57 h76) fun h78 =>
 B1 (fa 2 x61) fun v79 =>
 B1 (st 1 v79 v74 h78) fun h80 =>
 B1 (ld v69 h76) fun v81 =>
 SM v70 v81 <|
 B1 (ld v72 h76) fun v82 =>
 SM v73 v82 <|
 B1 (ld v69 h78) fun v83 =>
 SM v70 v83 <|
 B1 (ld v72 h78) fun v84 =>
 SM v73 v84 <|
 j67 x56 x59 x60 x61 h80) (fun x85 x86 x87 x88 h89 =>
 J 2 (fun j90 =>
 B1 (fa 2 x86) fun v91 =>
 B1 (ld v91 h89) fun v92 =>
 B1 (lda 4 x88 h89) fun v93 =>
 B1 (ia 4 v92 x85) fun v94 =>
 B1 (st 4 v94 v93 h89) fun h95 =>
 j90 x86 x87 h95) (fun x96 x97 h98 =>
 B1 (lda 4 x96 h98) fun v99 =>
 B1 (st 4 x97 v99 h98) fun h100 =>
 B1 (lda 4 x97 h100) fun v101 =>
 some (.tuple [v101, (.int .i64 0)], h100))))))

theorem e__run_Run_Lease (J : JT) (G : GT) (cf : CF) (a0 a1 a2 a3 : AV) (H : Hp) : callF P J G prim an cf 18 [a0, a1, a2, a3] H = s__run_Run_Lease J G cf a0 a1 a2 a3 H := by kernel_rfl

theorem c__run_Run_Lease {a0 a1 a2 a3 : AV} {H : Hp} {r : AV × Hp} (h : s__run_Run_Lease JN GO cK a0 a1 a2 a3 H = some r) : cK (.func (.func 18) [] []) [a0, a1, a2, a3] H = some r := callF_fix (first := []) (cap := []) ((e__run_Run_Lease JN GO _ a0 a1 a2 a3 H).trans h)

noncomputable def s__run_Run_Done (J : JT) (G : GT) (cf : CF) (a0 a1 a2 a3 : AV) (H : Hp) : R :=
 BN (bx 47 a0 H) fun i0 h1 =>
 BN (newCells h1 [.slice0, (.int .i64 0), .slice0, .slice0] 47 0) fun i2 h3 =>
 J 5 (fun j4 =>
 J 6 (fun j5 =>
 B1 (lda 4 (.ptr i0 0) h3) fun v6 =>
 B2 (cf (.func (.func 47) [] []) [v6, a1, a2] h3) fun v7 h8 =>
 j5 a1 a2 a3 (.ptr i0 0) (.ptr i2 0) v7 h8) (fun x9 x10 x11 x12 x13 x14 h15 =>
 B1 (ine x14 (.int .i64 0)) fun v16 =>
 CD v16 (
 B1 (fl [.slice0, (.int .i64 0), .slice0, .slice0] []) fun l17 =>
 B1 (st 4 x13 (.agg l17) h15) fun h18 =>
 B1 (lda 4 x13 h18) fun v19 =>
 some (.tuple [v19, x14], h18)) (
 j4 x9 x10 x11 x12 x13 h15))) (fun x20 x21 x22 x23 x24 h25 =>
 B1 (lda 4 x23 h25) fun v26 =>
 B2 (cf (.func (.func 44) [] []) [v26] h25) fun v27 h28 =>
 B1 (st 4 x23 v27 h28) fun h29 =>
 J 2 (fun j30 =>
 B1 (fa 2 x23) fun v31 =>
 B1 (ld v31 h29) fun v32 =>
 B1 (fl [(.int .i64 0), (.int .i64 0), (.int .i64 0), (.str [])] [(0, 1, (.int .i64 3)), (1, 1, x21), (3, 1, x22)]) fun l33 =>
 B1 (ia 4 v32 x20) fun v34 =>
 B1 (st 4 v34 (.agg l33) h29) fun h35 =>
 j30 x23 x24 h35) (fun x36 x37 h38 =>
 B2 (cf (.func (.func 45) [] []) [x36] h38) fun v39 h40 =>
 B1 (lda 4 x36 h40) fun v41 =>
 B1 (st 4 x37 v41 h40) fun h42 =>
 B1 (lda 4 x37 h42) fun v43 =>
 some (.tuple [v43, (.int .i64 0)], h42)))

theorem e__run_Run_Done (J : JT) (G : GT) (cf : CF) (a0 a1 a2 a3 : AV) (H : Hp) : callF P J G prim an cf 19 [a0, a1, a2, a3] H = s__run_Run_Done J G cf a0 a1 a2 a3 H := by kernel_rfl

theorem c__run_Run_Done {a0 a1 a2 a3 : AV} {H : Hp} {r : AV × Hp} (h : s__run_Run_Done JN GO cK a0 a1 a2 a3 H = some r) : cK (.func (.func 19) [] []) [a0, a1, a2, a3] H = some r := callF_fix (first := []) (cap := []) ((e__run_Run_Done JN GO _ a0 a1 a2 a3 H).trans h)

noncomputable def s_run_Run_fail (J : JT) (G : GT) (cf : CF) (a0 a1 a2 : AV) (H : Hp) : R :=
 J 4 (fun j0 =>
 B1 (nilA a0) fun v1 =>
 B1 (fa 2 v1) fun v2 =>
 B1 (ld v2 H) fun v3 =>
 B1 (ia 4 v3 a1) fun v4 =>
 B1 (nilA a0) fun v5 =>
 B1 (fa 0 v5) fun v6 =>
 B1 (fa 0 v6) fun v7 =>
 B1 (ld v7 H) fun v8 =>
 B1 (ia 6 v8 a1) fun v9 =>
 B1 (lda 6 v9 H) fun v10 =>
 BN (newCells H [(.str []), .slice0, (.int .i64 0), (.int .i64 0), (.int .i64 0), (.str [])] 43 0) fun i11 h12 =>
 B1 (st 6 (.ptr i11 0) v10 h12) fun h13 =>
 j0 a0 a2 v4 (.ptr i11 0) h13) (fun x14 x15 x16 x17 h18 =>
 J 2 (fun j19 =>
 J 5 (fun j20 =>
 B1 (nilA x16) fun v21 =>
 B1 (fa 1 v21) fun v22 =>
 B1 (ld v22 h18) fun v23 =>
 B1 (fa 2 x17) fun v24 =>
 B1 (ld v24 h18) fun v25 =>
 B1 (ile v23 v25) fun v26 =>
 j20 x14 x15 x16 x17 v26 h18) (fun x27 x28 x29 x30 x31 h32 =>
 CD x31 (
 B1 (fa 4 x30) fun v33 =>
 B1 (ld v33 h32) fun v34 =>
 B1 (nilA x29) fun v35 =>
 B1 (fa 1 v35) fun v36 =>
 B1 (ld v36 h32) fun v37 =>
 B2 (cf (.func (.func 81) [] []) [v34, v37] h32) fun v38 h39 =>
 B1 (iadd x28 v38) fun v40 =>
 B1 (nilA x29) fun v41 =>
 B1 (fa 0 v41) fun v42 =>
 B1 (st 1 v42 (.int .i64 5) h39) fun h43 =>
 B1 (nilA x29) fun v44 =>
 B1 (fa 2 v44) fun v45 =>
 B1 (st 1 v45 v40 h43) fun h46 =>
 some (.tuple [], h46)) (
 j19 x27 x29 h32))) (fun x47 x48 h49 =>
 J 1 (fun j50 =>
 B1 (nilA x48) fun v51 =>
 B1 (fa 0 v51) fun v52 =>
 B1 (st 1 v52 (.int .i64 4) h49) fun h53 =>
 B1 (nilA x48) fun v54 =>
 B1 (fa 2 v54) fun v55 =>
 B1 (st 1 v55 (.int .i64 0) h53) fun h56 =>
 j50 x47 h56) (fun x57 h58 =>
 B1 (nilA x57) fun v59 =>
 B1 (fa 1 v59) fun v60 =>
 B1 (st 1 v60 (.int .i64 2) h58) fun h61 =>
 some (.tuple [], h61))))

theorem e_run_Run_fail (J : JT) (G : GT) (cf : CF) (a0 a1 a2 : AV) (H : Hp) : callF P J G prim an cf 52 [a0, a1, a2] H = s_run_Run_fail J G cf a0 a1 a2 H := by kernel_rfl

theorem c_run_Run_fail {a0 a1 a2 : AV} {H : Hp} {r : AV × Hp} (h : s_run_Run_fail JN GO cK a0 a1 a2 H = some r) : cK (.func (.func 52) [] []) [a0, a1, a2] H = some r := callF_fix (first := []) (cap := []) ((e_run_Run_fail JN GO _ a0 a1 a2 H).trans h)

noncomputable def s__run_Run_Fail (J : JT) (G : GT) (cf : CF) (a0 a1 a2 a3 : AV) (H : Hp) : R :=
 BN (bx 47 a0 H) fun i0 h1 =>
 BN (newCells h1 [.slice0, (.int .i64 0), .slice0, .slice0] 47 0) fun i2 h3 =>
 J 4 (fun j4 =>
 J 5 (fun j5 =>
 B1 (lda 4 (.ptr i0 0) h3) fun v6 =>
 B2 (cf (.func (.func 47) [] []) [v6, a1, a2] h3) fun v7 h8 =>
 j5 a1 a3 (.ptr i0 0) (.ptr i2 0) v7 h8) (fun x9 x10 x11 x12 x13 h14 =>
 B1 (ine x13 (.int .i64 0)) fun v15 =>
 CD v15 (
 B1 (fl [.slice0, (.int .i64 0), .slice0, .slice0] []) fun l16 =>
 B1 (st 4 x12 (.agg l16) h14) fun h17 =>
 B1 (lda 4 x12 h17) fun v18 =>
 some (.tuple [v18, x13], h17)) (
 j4 x9 x10 x11 x12 h14))) (fun x19 x20 x21 x22 h23 =>
 B1 (lda 4 x21 h23) fun v24 =>
 B2 (cf (.func (.func 44) [] []) [v24] h23) fun v25 h26 =>
 B1 (st 4 x21 v25 h26) fun h27 =>
 B2 (cf (.func (.func 52) [] []) [x21, x19, x20] h27) fun v28 h29 =>
 B1 (lda 4 x21 h29) fun v30 =>
 B1 (st 4 x22 v30 h29) fun h31 =>
 B1 (lda 4 x22 h31) fun v32 =>
 some (.tuple [v32, (.int .i64 0)], h31))

theorem e__run_Run_Fail (J : JT) (G : GT) (cf : CF) (a0 a1 a2 a3 : AV) (H : Hp) : callF P J G prim an cf 21 [a0, a1, a2, a3] H = s__run_Run_Fail J G cf a0 a1 a2 a3 H := by kernel_rfl

theorem c__run_Run_Fail {a0 a1 a2 a3 : AV} {H : Hp} {r : AV × Hp} (h : s__run_Run_Fail JN GO cK a0 a1 a2 a3 H = some r) : cK (.func (.func 21) [] []) [a0, a1, a2, a3] H = some r := callF_fix (first := []) (cap := []) ((e__run_Run_Fail JN GO _ a0 a1 a2 a3 H).trans h)

noncomputable def bl__run_Run_Tick (J : JT) (G : GT) (cf : CF) (j12 : K.Fn 2) (j13 : K.Fn 5) (x14 x15 x16 x17 x18 : AV) (h19 : Hp) : R :=
 B1 (ilt x18 x17) fun v20 =>
 CD v20 (
 J 5 (fun j21 =>
 J 5 (fun j22 =>
 J 7 (fun j23 =>
 B1 (fa 2 x15) fun v24 =>
 B1 (ld v24 h19) fun v25 =>
 B1 (ia 4 v25 x18) fun v26 =>
 j23 x14 x15 x16 x18 v26 x17 x18 h19) (fun x27 x28 x29 x30 x31 x32 x33 h34 =>
 J 5 (fun j35 =>
 J 8 (fun j36 =>
 B1 (fa 1 x28) fun v37 =>
 B1 (ld v37 h34) fun v38 =>
 B1 (ine v38 (.int .i64 0)) fun v39 =>
 G v39 false (fun k40 =>
 k40 x31 h34) (fun v41 h42 =>
 G v39 false (fun k43 =>
 B1 (nilA v41) fun v44 =>
 k43 v44 h42) (fun v45 h46 =>
 G v39 false (fun k47 =>
 B1 (fa 2 v45) fun v48 =>
 k47 v48 h46) (fun v49 h50 =>
 G v39 false (fun k51 =>
 B1 (ld v49 h50) fun v52 =>
 k51 v52 h50) (fun v53 h54 =>
 G v39 false (fun k55 =>
 k55 x27 h54) (fun v56 h57 =>
 G v39 false (fun k58 =>
 B1 (igt v53 v56) fun v59 =>
 k58 v59 h57) (fun v60 h61 =>
 B1 (pk v39 (.bool true) v60) fun v62 =>
 j36 x27 x28 x29 x30 x31 x32 x33 v62 h61) h57) h54) h50) h46) h42) h34) (fun x63 x64 x65 x66 x67 x68 x69 x70 h71 =>
 CD x70 (
 j35 x63 x64 x65 x68 x69 h71) (
 J 8 (fun j72 =>
 B1 (nilA x67) fun v73 =>
 B1 (fa 0 v73) fun v74 =>
 B1 (ld v74 h71) fun v75 =>
 B1 (ieq v75 (.int .i64 2)) fun v76 =>
 j72 x63 x64 x65 x66 x67 x68 x69 v76 h71) (fun x77 x78 x79 x80 x81 x82 x83 x84 h85 =>
 CD x84 (
 B2 (cf (.func (.func 52) [] []) [x78, x80, x77] h85) fun v86 h87 =>
 j35 x77 x78 x79 x82 x83 h87) (
 J 7 (fun j88 =>
 B1 (nilA x81) fun v89 =>
 B1 (fa 0 v89) fun v90 =>
 B1 (ld v90 h85) fun v91 =>
 B1 (ieq v91 (.int .i64 5)) fun v92 =>
 j88 x77 x78 x79 x81 x82 x83 v92 h85) (fun x93 x94 x95 x96 x97 x98 x99 h100 =>
 CD x99 (
 B1 (nilA x96) fun v101 =>
 B1 (fa 0 v101) fun v102 =>
 B1 (st 1 v102 (.int .i64 1) h100) fun h103 =>
 B1 (nilA x96) fun v104 =>
 B1 (fa 2 v104) fun v105 =>
 B1 (st 1 v105 (.int .i64 0) h103) fun h106 =>
 j35 x93 x94 x95 x97 x98 h106) (
 j35 x93 x94 x95 x97 x98 h100))))))) (fun x107 x108 x109 x110 x111 h112 =>
 j22 x107 x108 x109 x110 x111 h112))) (fun x113 x114 x115 x116 x117 h118 =>
 j21 x113 x114 x115 x116 x117 h118)) (fun x119 x120 x121 x122 x123 h124 =>
 B1 (iadd x123 (.int .i64 1)) fun v125 =>
 j13 x119 x120 x121 x122 v125 h124)) (
 j12 x15 x16 h19)

noncomputable def l__run_Run_Tick (J : JT) (G : GT) (cf : CF) (j12 : K.Fn 2) : K.Fn 5 := lpF P an J G cf 23 [1, 1, 0, 1, 0, 0] [1, 2, 4, 11, 12] (fun q t H => match Nat.beq q 0 with | true => app 2 j12 (vals [2, 4] t) H | false => (fun _ _ _ => none) q t H)

theorem rl__run_Run_Tick (J : JT) (G : GT) (cf : CF) (j12 : K.Fn 2) (j13 : K.Fn 5) (x14 x15 x16 x17 x18 : AV) (h19 : Hp) : lpB P an J G cf 23 [1, 1, 0, 1, 0, 0] [1, 2, 4, 11, 12] (fun q t H => match Nat.beq q 0 with | true => app 2 j12 (vals [2, 4] t) H | false => (fun _ _ _ => none) q t H) j13 [x14, x15, x16, x17, x18] h19 = bl__run_Run_Tick J G cf j12 j13 x14 x15 x16 x17 x18 h19 := by kernel_rfl

theorem ql__run_Run_Tick (cf : CF) (j12 : K.Fn 2) (x14 x15 x16 x17 x18 : AV) (h19 : Hp) : l__run_Run_Tick JN GO cf j12 x14 x15 x16 x17 x18 h19 = bl__run_Run_Tick JN GO cf j12 (l__run_Run_Tick JN GO cf j12) x14 x15 x16 x17 x18 h19 := Eq.trans (b := app 5 (l__run_Run_Tick JN GO cf j12) [x14, x15, x16, x17, x18] h19) (by kernel_rfl) ((lpQ cf _ _ _ _ [x14, x15, x16, x17, x18] rfl h19).trans (rl__run_Run_Tick JN GO cf j12 _ x14 x15 x16 x17 x18 h19))

noncomputable def s__run_Run_Tick (J : JT) (G : GT) (cf : CF) (a0 a1 : AV) (H : Hp) : R :=
 BN (bx 47 a0 H) fun i0 h1 =>
 BN (newCells h1 [.slice0, (.int .i64 0), .slice0, .slice0] 47 0) fun i2 h3 =>
 B1 (lda 4 (.ptr i0 0) h3) fun v4 =>
 B2 (cf (.func (.func 44) [] []) [v4] h3) fun v5 h6 =>
 B1 (st 4 (.ptr i0 0) v5 h6) fun h7 =>
 J 2 (fun j8 =>
 B1 (fa 2 (.ptr i0 0)) fun v9 =>
 B1 (ld v9 h7) fun v10 =>
 B1 (lenx v10) fun v11 =>
 J 2 (fun j12 =>
 l__run_Run_Tick J G cf j12 a1 (.ptr i0 0) (.ptr i2 0) v11 (.int .i64 0) h7) (fun x126 x127 h128 =>
 j8 x126 x127 h128)) (fun x129 x130 h131 =>
 B1 (lda 4 x129 h131) fun v132 =>
 B1 (st 4 x130 v132 h131) fun h133 =>
 B1 (lda 4 x130 h133) fun v134 =>
 some (v134, h133))

theorem e__run_Run_Tick (J : JT) (G : GT) (cf : CF) (a0 a1 : AV) (H : Hp) : callF P J G prim an cf 23 [a0, a1] H = s__run_Run_Tick J G cf a0 a1 H := by kernel_rfl

theorem c__run_Run_Tick {a0 a1 : AV} {H : Hp} {r : AV × Hp} (h : s__run_Run_Tick JN GO cK a0 a1 H = some r) : cK (.func (.func 23) [] []) [a0, a1] H = some r := callF_fix (first := []) (cap := []) ((e__run_Run_Tick JN GO _ a0 a1 H).trans h)

noncomputable def s__run_Run_Signal (J : JT) (G : GT) (cf : CF) (a0 a1 : AV) (H : Hp) : R :=
 BN (bx 47 a0 H) fun i0 h1 =>
 BN (bx 9 a1 h1) fun i2 h3 =>
 BN (newCells h3 [.slice0, (.int .i64 0), .slice0, .slice0] 47 0) fun i4 h5 =>
 J 3 (fun j6 =>
 B1 (fa 1 (.ptr i0 0)) fun v7 =>
 B1 (ld v7 h5) fun v8 =>
 B1 (ine v8 (.int .i64 0)) fun v9 =>
 CD v9 (
 B1 (fl [.slice0, (.int .i64 0), .slice0, .slice0] []) fun l10 =>
 B1 (st 4 (.ptr i4 0) (.agg l10) h5) fun h11 =>
 B1 (lda 4 (.ptr i4 0) h11) fun v12 =>
 some (.tuple [v12, (.int .i64 9)], h11)) (
 J 4 (fun j13 =>
 B1 (fa 3 (.ptr i0 0)) fun v14 =>
 B1 (ld v14 h5) fun v15 =>
 B1 (ld (.ptr i2 0) h5) fun v16 =>
 B2 (cf (.func (.func 58) [] []) [v15, v16] h5) fun v17 h18 =>
 j13 (.ptr i0 0) (.ptr i2 0) (.ptr i4 0) v17 h18) (fun x19 x20 x21 x22 h23 =>
 CD x22 (
 B1 (fl [.slice0, (.int .i64 0), .slice0, .slice0] []) fun l24 =>
 B1 (st 4 x21 (.agg l24) h23) fun h25 =>
 B1 (lda 4 x21 h25) fun v26 =>
 some (.tuple [v26, (.int .i64 5)], h25)) (
 J 4 (fun j27 =>
 B1 (fa 0 x19) fun v28 =>
 B1 (fa 0 v28) fun v29 =>
 B1 (ld v29 h23) fun v30 =>
 B2 (cf (.func (.func 59) [] []) [v30, (.func (.func 60) [] [x20])] h23) fun v31 h32 =>
 B1 (unA .not v31) fun v33 =>
 j27 x19 x20 x21 v33 h32) (fun x34 x35 x36 x37 h38 =>
 CD x37 (
 B1 (fl [.slice0, (.int .i64 0), .slice0, .slice0] []) fun l39 =>
 B1 (st 4 x36 (.agg l39) h38) fun h40 =>
 B1 (lda 4 x36 h40) fun v41 =>
 some (.tuple [v41, (.int .i64 1)], h40)) (
 j6 x34 x35 x36 h38)))))) (fun x42 x43 x44 h45 =>
 B1 (lda 4 x42 h45) fun v46 =>
 B2 (cf (.func (.func 44) [] []) [v46] h45) fun v47 h48 =>
 B1 (st 4 x42 v47 h48) fun h49 =>
 J 2 (fun j50 =>
 B1 (fa 3 x42) fun v51 =>
 B1 (ld v51 h49) fun v52 =>
 B1 (ld x43 h49) fun v53 =>
 B1 (fl [(.str [])] [(0, 1, v53)]) fun l54 =>
 BN (newCells h49 l54 9 0) fun i55 h56 =>
 B2 (app' 9 1 [(.str [])] false v52 (.slice i55 0 1 1 true 1) h56) fun v57 h58 =>
 B1 (fa 3 x42) fun v59 =>
 B1 (st 1 v59 v57 h58) fun h60 =>
 j50 x42 x44 h60) (fun x61 x62 h63 =>
 B2 (cf (.func (.func 45) [] []) [x61] h63) fun v64 h65 =>
 B1 (lda 4 x61 h65) fun v66 =>
 B1 (st 4 x62 v66 h65) fun h67 =>
 B1 (lda 4 x62 h67) fun v68 =>
 some (.tuple [v68, (.int .i64 0)], h67)))

theorem e__run_Run_Signal (J : JT) (G : GT) (cf : CF) (a0 a1 : AV) (H : Hp) : callF P J G prim an cf 26 [a0, a1] H = s__run_Run_Signal J G cf a0 a1 H := by kernel_rfl

theorem c__run_Run_Signal {a0 a1 : AV} {H : Hp} {r : AV × Hp} (h : s__run_Run_Signal JN GO cK a0 a1 H = some r) : cK (.func (.func 26) [] []) [a0, a1] H = some r := callF_fix (first := []) (cap := []) ((e__run_Run_Signal JN GO _ a0 a1 H).trans h)

noncomputable def s__run_Run_Signal_1 (J : JT) (G : GT) (cf : CF) (a0 a1 : AV) (H : Hp) : R :=
 BN (bx 43 a0 H) fun i0 h1 =>
 B1 (fa 5 (.ptr i0 0)) fun v2 =>
 B1 (ld v2 h1) fun v3 =>
 B1 (ld a1 h1) fun v4 =>
 B1 (seq v3 v4) fun v5 =>
 G v5 true (fun k6 =>
 B1 (ld a1 h1) fun v7 =>
 k6 v7 h1) (fun v8 h9 =>
 G v5 true (fun k10 =>
 B1 (sne v8 (.str [])) fun v11 =>
 k10 v11 h9) (fun v12 h13 =>
 B1 (pk v5 v12 (.bool false)) fun v14 =>
 some (v14, h13)) h9) h1

theorem e__run_Run_Signal_1 (J : JT) (G : GT) (cf : CF) (a0 a1 : AV) (H : Hp) : callF P J G prim an cf 60 [a0, a1] H = s__run_Run_Signal_1 J G cf a0 a1 H := by kernel_rfl

theorem c__run_Run_Signal_1 {a0 a1 : AV} {H : Hp} {r : AV × Hp} (h : s__run_Run_Signal_1 JN GO cK a0 a1 H = some r) : cK (.func (.func 60) [] [a1]) [a0] H = some r := callF_fix (first := []) (cap := [a1]) ((e__run_Run_Signal_1 JN GO _ a0 a1 H).trans h)

noncomputable def bl_back_Delay (J : JT) (G : GT) (cf : CF) (j21 : K.Fn 1) (j22 : K.Fn 3) (x23 x24 x25 : AV) (h26 : Hp) : R :=
 J 3 (fun j27 =>
 J 4 (fun j28 =>
 B1 (ilt x25 x23) fun v29 =>
 G v29 true (fun k30 =>
 k30 x24 h26) (fun v31 h32 =>
 G v29 true (fun k33 =>
 B1 (ilt v31 (.int .i64 64000)) fun v34 =>
 k33 v34 h32) (fun v35 h36 =>
 B1 (pk v29 v35 (.bool false)) fun v37 =>
 j28 x23 x24 x25 v37 h36) h32) h26) (fun x38 x39 x40 x41 h42 =>
 CD x41 (
 j27 x38 x39 x40 h42) (
 j21 x39 h42))) (fun x43 x44 x45 h46 =>
 B1 (ishl x44 (.int .u64 1)) fun v47 =>
 B2 (builtinA P .min #[2, 2] [v47, (.int .i64 64000)] h46) fun v48 h49 =>
 B1 (iadd x45 (.int .i64 1)) fun v50 =>
 j22 x43 v48 v50 h49)

noncomputable def l_back_Delay (J : JT) (G : GT) (cf : CF) (j21 : K.Fn 1) : K.Fn 3 := lpF P an J G cf 81 [1, 1, 1, 0, 1, 0, 0] [1, 5, 6] (fun q t H => match Nat.beq q 0 with | true => app 1 j21 (vals [5] t) H | false => (fun _ _ _ => none) q t H)

theorem rl_back_Delay (J : JT) (G : GT) (cf : CF) (j21 : K.Fn 1) (j22 : K.Fn 3) (x23 x24 x25 : AV) (h26 : Hp) : lpB P an J G cf 81 [1, 1, 1, 0, 1, 0, 0] [1, 5, 6] (fun q t H => match Nat.beq q 0 with | true => app 1 j21 (vals [5] t) H | false => (fun _ _ _ => none) q t H) j22 [x23, x24, x25] h26 = bl_back_Delay J G cf j21 j22 x23 x24 x25 h26 := by kernel_rfl

theorem ql_back_Delay (cf : CF) (j21 : K.Fn 1) (x23 x24 x25 : AV) (h26 : Hp) : l_back_Delay JN GO cf j21 x23 x24 x25 h26 = bl_back_Delay JN GO cf j21 (l_back_Delay JN GO cf j21) x23 x24 x25 h26 := Eq.trans (b := app 3 (l_back_Delay JN GO cf j21) [x23, x24, x25] h26) (by kernel_rfl) ((lpQ cf _ _ _ _ [x23, x24, x25] rfl h26).trans (rl_back_Delay JN GO cf j21 _ x23 x24 x25 h26))

noncomputable def s_back_Delay (J : JT) (G : GT) (cf : CF) (a0 a1 : AV) (H : Hp) : R :=
 J 2 (fun j0 =>
 J 3 (fun j1 =>
 B1 (ilt a0 (.int .i64 1)) fun v2 =>
 G v2 false (fun k3 =>
 k3 a1 H) (fun v4 h5 =>
 G v2 false (fun k6 =>
 B1 (ilt v4 (.int .i64 1)) fun v7 =>
 k6 v7 h5) (fun v8 h9 =>
 B1 (pk v2 (.bool true) v8) fun v10 =>
 j1 a0 a1 v10 h9) h5) H) (fun x11 x12 x13 h14 =>
 CD x13 (
 some ((.int .i64 0), h14)) (
 j0 x11 x12 h14))) (fun x15 x16 h17 =>
 B2 (builtinA P .min #[2, 2] [x15, (.int .i64 64000)] h17) fun v18 h19 =>
 J 1 (fun j20 =>
 J 1 (fun j21 =>
 l_back_Delay J G cf j21 x16 v18 (.int .i64 1) h19) (fun x51 h52 =>
 j20 x51 h52)) (fun x53 h54 =>
 some (x53, h54)))

theorem e_back_Delay (J : JT) (G : GT) (cf : CF) (a0 a1 : AV) (H : Hp) : callF P J G prim an cf 81 [a0, a1] H = s_back_Delay J G cf a0 a1 H := by kernel_rfl

theorem c_back_Delay {a0 a1 : AV} {H : Hp} {r : AV × Hp} (h : s_back_Delay JN GO cK a0 a1 H = some r) : cK (.func (.func 81) [] []) [a0, a1] H = some r := callF_fix (first := []) (cap := []) ((e_back_Delay JN GO _ a0 a1 H).trans h)

end
end Go.Proofs.YthljbjokonglhaaGreatDoor.DfK
namespace Go.Proofs.YthljbjokonglhaaGreatDoor.DfK
open Go Am Am.K DfEnv
set_option linter.unusedVariables false
set_option maxRecDepth 100000
noncomputable section
noncomputable def bl_outriderlaw16_RunOrder2 (J : JT) (G : GT) (cf : CF) (j40 : K.Fn 0) (j50 : K.Fn 4) (j297 : K.Fn 5) (j331 : K.Fn 7) (j434 : K.Fn 7) (j435 : K.Fn 9) (x436 x437 x438 x439 x440 x441 x442 x443 x444 : AV) (h445 : Hp) : R :=
 J 9 (fun j446 =>
 J 10 (fun j447 =>
 B1 (fa 1 x443) fun v448 =>
 B1 (ld v448 h445) fun v449 =>
 B1 (lenx v449) fun v450 =>
 B1 (ilt x444 v450) fun v451 =>
 j447 x436 x437 x438 x439 x440 x441 x442 x443 x444 v451 h445) (fun x452 x453 x454 x455 x456 x457 x458 x459 x460 x461 h462 =>
 CD x461 (
 j446 x452 x453 x454 x455 x456 x457 x458 x459 x460 h462) (
 j434 x452 x453 x454 x455 x456 x457 x458 h462))) (fun x463 x464 x465 x466 x467 x468 x469 x470 x471 h472 =>
 J 9 (fun j473 =>
 J 10 (fun j474 =>
 B1 (fa 1 x470) fun v475 =>
 B1 (ld v475 h472) fun v476 =>
 B1 (ia 1 v476 x471) fun v477 =>
 B1 (ld v477 h472) fun v478 =>
 B1 (ilt v478 (.int .i64 0)) fun v479 =>
 GD2 v479 false (
 B1 (fa 1 x470) fun v480 =>
 B1 (ld v480 h472) fun v481 =>
 B1 (ia 1 v481 x471) fun v482 =>
 B1 (ld v482 h472) fun v483 =>
 B1 (fa 2 x464) fun v484 =>
 B1 (ld v484 h472) fun v485 =>
 B1 (lenx v485) fun v486 =>
 B1 (ige v483 v486) fun v487 =>
 GD2 v487 false (
 B1 (fa 2 x464) fun v488 =>
 B1 (ld v488 h472) fun v489 =>
 B1 (ia 4 v489 x469) fun v490 =>
 B1 (fa 0 v490) fun v491 =>
 B1 (ld v491 h472) fun v492 =>
 B1 (ine v492 (.int .i64 0)) fun v493 =>
 GD2 v493 true (
 B1 (fa 2 x464) fun v494 =>
 B1 (ld v494 h472) fun v495 =>
 B1 (fa 1 x470) fun v496 =>
 B1 (ld v496 h472) fun v497 =>
 B1 (ia 1 v497 x471) fun v498 =>
 B1 (ld v498 h472) fun v499 =>
 B1 (ia 4 v495 v499) fun v500 =>
 B1 (fa 0 v500) fun v501 =>
 B1 (ld v501 h472) fun v502 =>
 B1 (ine v502 (.int .i64 3)) fun v503 =>
 j474 x463 x464 x465 x466 x467 x468 x469 x470 x471 v503 h472) (
 j474 x463 x464 x465 x466 x467 x468 x469 x470 x471 (.bool false) h472)) (
 j474 x463 x464 x465 x466 x467 x468 x469 x470 x471 (.bool true) h472)) (
 j474 x463 x464 x465 x466 x467 x468 x469 x470 x471 (.bool true) h472)) (fun x504 x505 x506 x507 x508 x509 x510 x511 x512 x513 h514 =>
 CD x513 (
 some ((.bool false), h514)) (
 j473 x504 x505 x506 x507 x508 x509 x510 x511 x512 h514))) (fun x515 x516 x517 x518 x519 x520 x521 x522 x523 h524 =>
 B1 (iadd x523 (.int .i64 1)) fun v525 =>
 j435 x515 x516 x517 x518 x519 x520 x521 x522 v525 h524))

noncomputable def l_outriderlaw16_RunOrder2 (J : JT) (G : GT) (cf : CF) (j40 : K.Fn 0) (j50 : K.Fn 4) (j297 : K.Fn 5) (j331 : K.Fn 7) (j434 : K.Fn 7) : K.Fn 9 := lpF P an J G cf 7 [1, 1, 1, 1, 1, 1, 0, 1, 0, 0, 1, 0, 0, 1, 1, 1, 1, 1, 1, 1, 1, 1, 1, 0, 1, 0, 0, 1, 0, 0, 1, 1, 1, 1, 0, 0] [1, 5, 7, 8, 9, 13, 14, 15, 16] (fun q t H => match Nat.beq q 5 with | true => app 7 j434 (vals [1, 5, 7, 8, 9, 13, 14] t) H | false => (fun q t H => match Nat.beq q 4 with | true => app 7 j331 (vals [1, 5, 7, 8, 9, 13, 14] t) H | false => (fun q t H => match Nat.beq q 3 with | true => app 5 j297 (vals [1, 5, 7, 8, 13] t) H | false => (fun q t H => match Nat.beq q 1 with | true => app 4 j50 (vals [1, 5, 7, 8] t) H | false => (fun q t H => match Nat.beq q 0 with | true => app 0 j40 (vals [] t) H | false => (fun _ _ _ => none) q t H) q t H) q t H) q t H) q t H)

theorem rl_outriderlaw16_RunOrder2 (J : JT) (G : GT) (cf : CF) (j40 : K.Fn 0) (j50 : K.Fn 4) (j297 : K.Fn 5) (j331 : K.Fn 7) (j434 : K.Fn 7) (j435 : K.Fn 9) (x436 x437 x438 x439 x440 x441 x442 x443 x444 : AV) (h445 : Hp) : lpB P an J G cf 7 [1, 1, 1, 1, 1, 1, 0, 1, 0, 0, 1, 0, 0, 1, 1, 1, 1, 1, 1, 1, 1, 1, 1, 0, 1, 0, 0, 1, 0, 0, 1, 1, 1, 1, 0, 0] [1, 5, 7, 8, 9, 13, 14, 15, 16] (fun q t H => match Nat.beq q 5 with | true => app 7 j434 (vals [1, 5, 7, 8, 9, 13, 14] t) H | false => (fun q t H => match Nat.beq q 4 with | true => app 7 j331 (vals [1, 5, 7, 8, 9, 13, 14] t) H | false => (fun q t H => match Nat.beq q 3 with | true => app 5 j297 (vals [1, 5, 7, 8, 13] t) H | false => (fun q t H => match Nat.beq q 1 with | true => app 4 j50 (vals [1, 5, 7, 8] t) H | false => (fun q t H => match Nat.beq q 0 with | true => app 0 j40 (vals [] t) H | false => (fun _ _ _ => none) q t H) q t H) q t H) q t H) q t H) j435 [x436, x437, x438, x439, x440, x441, x442, x443, x444] h445 = bl_outriderlaw16_RunOrder2 J G cf j40 j50 j297 j331 j434 j435 x436 x437 x438 x439 x440 x441 x442 x443 x444 h445 := by kernel_rfl

theorem ql_outriderlaw16_RunOrder2 (cf : CF) (j40 : K.Fn 0) (j50 : K.Fn 4) (j297 : K.Fn 5) (j331 : K.Fn 7) (j434 : K.Fn 7) (x436 x437 x438 x439 x440 x441 x442 x443 x444 : AV) (h445 : Hp) : l_outriderlaw16_RunOrder2 JN GO cf j40 j50 j297 j331 j434 x436 x437 x438 x439 x440 x441 x442 x443 x444 h445 = bl_outriderlaw16_RunOrder2 JN GO cf j40 j50 j297 j331 j434 (l_outriderlaw16_RunOrder2 JN GO cf j40 j50 j297 j331 j434) x436 x437 x438 x439 x440 x441 x442 x443 x444 h445 := Eq.trans (b := app 9 (l_outriderlaw16_RunOrder2 JN GO cf j40 j50 j297 j331 j434) [x436, x437, x438, x439, x440, x441, x442, x443, x444] h445) (by kernel_rfl) ((lpQ cf _ _ _ _ [x436, x437, x438, x439, x440, x441, x442, x443, x444] rfl h445).trans (rl_outriderlaw16_RunOrder2 JN GO cf j40 j50 j297 j331 j434 _ x436 x437 x438 x439 x440 x441 x442 x443 x444 h445))

noncomputable def bl_outriderlaw16_RunOrder1 (J : JT) (G : GT) (cf : CF) (j40 : K.Fn 0) (j50 : K.Fn 4) (j297 : K.Fn 5) (j298 : K.Fn 7) (x299 x300 x301 x302 x303 x304 x305 : AV) (h306 : Hp) : R :=
 J 7 (fun j307 =>
 J 8 (fun j308 =>
 B1 (fa 2 x300) fun v309 =>
 B1 (ld v309 h306) fun v310 =>
 B1 (lenx v310) fun v311 =>
 B1 (ilt x305 v311) fun v312 =>
 j308 x299 x300 x301 x302 x303 x304 x305 v312 h306) (fun x313 x314 x315 x316 x317 x318 x319 x320 h321 =>
 CD x320 (
 j307 x313 x314 x315 x316 x317 x318 x319 h321) (
 j297 x313 x314 x315 x316 x318 h321))) (fun x322 x323 x324 x325 x326 x327 x328 h329 =>
 J 7 (fun j330 =>
 J 7 (fun j331 =>
 J 8 (fun j332 =>
 B1 (fa 0 x323) fun v333 =>
 B1 (fa 0 v333) fun v334 =>
 B1 (ld v334 h329) fun v335 =>
 B1 (ia 6 v335 x328) fun v336 =>
 B1 (lda 6 v336 h329) fun v337 =>
 BN (newCells h329 [(.str []), .slice0, (.int .i64 0), (.int .i64 0), (.int .i64 0), (.str [])] 43 0) fun i338 h339 =>
 B1 (st 6 (.ptr i338 0) v337 h339) fun h340 =>
 j332 x322 x323 x324 x325 x326 x327 x328 (.ptr i338 0) h340) (fun x341 x342 x343 x344 x345 x346 x347 x348 h349 =>
 J 8 (fun j350 =>
 J 9 (fun j351 =>
 B1 (fa 2 x342) fun v352 =>
 B1 (ld v352 h349) fun v353 =>
 B1 (ia 4 v353 x347) fun v354 =>
 B1 (fa 1 v354) fun v355 =>
 B1 (ld v355 h349) fun v356 =>
 B1 (fa 2 x348) fun v357 =>
 B1 (ld v357 h349) fun v358 =>
 B1 (iadd v358 (.int .i64 1)) fun v359 =>
 B1 (igt v356 v359) fun v360 =>
 GD2 v360 false (
 B1 (fa 2 x342) fun v361 =>
 B1 (ld v361 h349) fun v362 =>
 B1 (ia 4 v362 x347) fun v363 =>
 B1 (fa 1 v363) fun v364 =>
 B1 (ld v364 h349) fun v365 =>
 B1 (fa 2 x345) fun v366 =>
 B1 (ld v366 h349) fun v367 =>
 B1 (ia 4 v367 x347) fun v368 =>
 B1 (fa 1 v368) fun v369 =>
 B1 (ld v369 h349) fun v370 =>
 B1 (ilt v365 v370) fun v371 =>
 GD2 v371 false (
 B1 (fa 2 x345) fun v372 =>
 B1 (ld v372 h349) fun v373 =>
 B1 (ia 4 v373 x347) fun v374 =>
 B1 (fa 0 v374) fun v375 =>
 B1 (ld v375 h349) fun v376 =>
 B1 (ieq v376 (.int .i64 3)) fun v377 =>
 GD2 v377 true (
 B1 (fa 2 x342) fun v378 =>
 B1 (ld v378 h349) fun v379 =>
 B1 (ia 4 v379 x347) fun v380 =>
 B1 (lda 4 v380 h349) fun v381 =>
 B1 (fa 2 x345) fun v382 =>
 B1 (ld v382 h349) fun v383 =>
 B1 (ia 4 v383 x347) fun v384 =>
 B1 (lda 4 v384 h349) fun v385 =>
 IFT (gA P .neq 51 false v381 v385) <| B1 (binA P .neq 51 v381 v385 h349) fun v386 =>
 j351 x341 x342 x343 x344 x345 x346 x347 x348 v386 h349) (
 j351 x341 x342 x343 x344 x345 x346 x347 x348 (.bool false) h349)) (
 j351 x341 x342 x343 x344 x345 x346 x347 x348 (.bool true) h349)) (
 j351 x341 x342 x343 x344 x345 x346 x347 x348 (.bool true) h349)) (fun x387 x388 x389 x390 x391 x392 x393 x394 x395 h396 =>
 CD x395 (
 some ((.bool false), h396)) (
 j350 x387 x388 x389 x390 x391 x392 x393 x394 h396))) (fun x397 x398 x399 x400 x401 x402 x403 x404 h405 =>
 J 8 (fun j406 =>
 J 9 (fun j407 =>
 B1 (fa 2 x398) fun v408 =>
 B1 (ld v408 h405) fun v409 =>
 B1 (ia 4 v409 x403) fun v410 =>
 B1 (fa 0 v410) fun v411 =>
 B1 (ld v411 h405) fun v412 =>
 B1 (ieq v412 (.int .i64 3)) fun v413 =>
 j407 x397 x398 x399 x400 x401 x402 x403 x404 v413 h405) (fun x414 x415 x416 x417 x418 x419 x420 x421 x422 h423 =>
 CD x422 (
 B1 (iadd x419 (.int .i64 1)) fun v424 =>
 j406 x414 x415 x416 x417 x418 v424 x420 x421 h423) (
 j406 x414 x415 x416 x417 x418 x419 x420 x421 h423))) (fun x425 x426 x427 x428 x429 x430 x431 x432 h433 =>
 J 7 (fun j434 =>
 l_outriderlaw16_RunOrder2 J G cf j40 j50 j297 j331 j434 x425 x426 x427 x428 x429 x430 x431 x432 (.int .i64 0) h433) (fun x526 x527 x528 x529 x530 x531 x532 h533 =>
 j331 x526 x527 x528 x529 x530 x531 x532 h533))))) (fun x534 x535 x536 x537 x538 x539 x540 h541 =>
 j330 x534 x535 x536 x537 x538 x539 x540 h541)) (fun x542 x543 x544 x545 x546 x547 x548 h549 =>
 B1 (iadd x548 (.int .i64 1)) fun v550 =>
 j298 x542 x543 x544 x545 x546 x547 v550 h549))

noncomputable def l_outriderlaw16_RunOrder1 (J : JT) (G : GT) (cf : CF) (j40 : K.Fn 0) (j50 : K.Fn 4) (j297 : K.Fn 5) : K.Fn 7 := lpF P an J G cf 7 [1, 1, 1, 1, 1, 1, 0, 1, 0, 0, 1, 0, 0, 1, 1, 1, 1, 1, 1, 1, 1, 1, 1, 0, 1, 0, 0] [1, 5, 7, 8, 9, 13, 14] (fun q t H => match Nat.beq q 3 with | true => app 5 j297 (vals [1, 5, 7, 8, 13] t) H | false => (fun q t H => match Nat.beq q 1 with | true => app 4 j50 (vals [1, 5, 7, 8] t) H | false => (fun q t H => match Nat.beq q 0 with | true => app 0 j40 (vals [] t) H | false => (fun _ _ _ => none) q t H) q t H) q t H)

theorem rl_outriderlaw16_RunOrder1 (J : JT) (G : GT) (cf : CF) (j40 : K.Fn 0) (j50 : K.Fn 4) (j297 : K.Fn 5) (j298 : K.Fn 7) (x299 x300 x301 x302 x303 x304 x305 : AV) (h306 : Hp) : lpB P an J G cf 7 [1, 1, 1, 1, 1, 1, 0, 1, 0, 0, 1, 0, 0, 1, 1, 1, 1, 1, 1, 1, 1, 1, 1, 0, 1, 0, 0] [1, 5, 7, 8, 9, 13, 14] (fun q t H => match Nat.beq q 3 with | true => app 5 j297 (vals [1, 5, 7, 8, 13] t) H | false => (fun q t H => match Nat.beq q 1 with | true => app 4 j50 (vals [1, 5, 7, 8] t) H | false => (fun q t H => match Nat.beq q 0 with | true => app 0 j40 (vals [] t) H | false => (fun _ _ _ => none) q t H) q t H) q t H) j298 [x299, x300, x301, x302, x303, x304, x305] h306 = bl_outriderlaw16_RunOrder1 J G cf j40 j50 j297 j298 x299 x300 x301 x302 x303 x304 x305 h306 := by kernel_rfl

theorem ql_outriderlaw16_RunOrder1 (cf : CF) (j40 : K.Fn 0) (j50 : K.Fn 4) (j297 : K.Fn 5) (x299 x300 x301 x302 x303 x304 x305 : AV) (h306 : Hp) : l_outriderlaw16_RunOrder1 JN GO cf j40 j50 j297 x299 x300 x301 x302 x303 x304 x305 h306 = bl_outriderlaw16_RunOrder1 JN GO cf j40 j50 j297 (l_outriderlaw16_RunOrder1 JN GO cf j40 j50 j297) x299 x300 x301 x302 x303 x304 x305 h306 := Eq.trans (b := app 7 (l_outriderlaw16_RunOrder1 JN GO cf j40 j50 j297) [x299, x300, x301, x302, x303, x304, x305] h306) (by kernel_rfl) ((lpQ cf _ _ _ _ [x299, x300, x301, x302, x303, x304, x305] rfl h306).trans (rl_outriderlaw16_RunOrder1 JN GO cf j40 j50 j297 _ x299 x300 x301 x302 x303 x304 x305 h306))

noncomputable def bl_outriderlaw16_RunOrder (J : JT) (G : GT) (cf : CF) (j40 : K.Fn 0) (j41 : K.Fn 4) (x42 x43 x44 x45 : AV) (h46 : Hp) : R :=
 B1 (lenx x42) fun v47 =>
 B1 (ilt x45 v47) fun v48 =>
 CD v48 (
 J 4 (fun j49 =>
 J 4 (fun j50 =>
 B1 (lda 4 x43 h46) fun v51 =>
 BN (newCells h46 [.slice0, (.int .i64 0), .slice0, .slice0] 47 0) fun i52 h53 =>
 B1 (st 4 (.ptr i52 0) v51 h53) fun h54 =>
 J 5 (fun j55 =>
 B1 (ia 5 x42 x45) fun v56 =>
 B1 (fa 3 v56) fun v57 =>
 B1 (ld v57 h54) fun v58 =>
 B1 (iand v58 (.int .i64 63)) fun v59 =>
 B1 (iadd x44 v59) fun v60 =>
 j55 x42 x43 v60 x45 (.ptr i52 0) h54) (fun x61 x62 x63 x64 x65 h66 =>
 B1 (lda 4 x62 h66) fun v67 =>
 BN (newCells h66 [.slice0, (.int .i64 0), .slice0, .slice0] 47 0) fun i68 h69 =>
 B1 (st 4 (.ptr i68 0) v67 h69) fun h70 =>
 J 7 (fun j71 =>
 J 8 (fun j72 =>
 B1 (fa 2 x62) fun v73 =>
 B1 (ld v73 h70) fun v74 =>
 B1 (lenx v74) fun v75 =>
 B1 (ieq v75 (.int .i64 0)) fun v76 =>
 G v76 false (fun k77 =>
 B1 (fa 0 x62) fun v78 =>
 k77 v78 h70) (fun v79 h80 =>
 G v76 false (fun k81 =>
 B1 (fa 0 v79) fun v82 =>
 k81 v82 h80) (fun v83 h84 =>
 G v76 false (fun k85 =>
 B1 (ld v83 h84) fun v86 =>
 k85 v86 h84) (fun v87 h88 =>
 G v76 false (fun k89 =>
 B1 (lenx v87) fun v90 =>
 k89 v90 h88) (fun v91 h92 =>
 G v76 false (fun k93 =>
 B1 (fa 2 x62) fun v94 =>
 k93 v94 h92) (fun v95 h96 =>
 G v76 false (fun k97 =>
 B1 (ld v95 h96) fun v98 =>
 k97 v98 h96) (fun v99 h100 =>
 G v76 false (fun k101 =>
 B1 (lenx v99) fun v102 =>
 k101 v102 h100) (fun v103 h104 =>
 G v76 false (fun k105 =>
 B1 (ine v91 v103) fun v106 =>
 k105 v106 h104) (fun v107 h108 =>
 B1 (pk v76 (.bool true) v107) fun v109 =>
 j72 x61 x62 x63 x64 x65 (.ptr i68 0) (.int .i64 0) v109 h108) h104) h100) h96) h92) h88) h84) h80) h70) (fun x110 x111 x112 x113 x114 x115 x116 x117 h118 =>
 CD x117 (
 some ((.bool false), h118)) (
 j71 x110 x111 x112 x113 x114 x115 x116 h118))) (fun x119 x120 x121 x122 x123 x124 x125 h126 =>
 J 8 (fun j127 =>
 B1 (ia 5 x119 x122) fun v128 =>
 B1 (fa 1 v128) fun v129 =>
 B1 (ld v129 h126) fun v130 =>
 B1 (iand v130 (.int .i64 15)) fun v131 =>
 B1 (fa 2 x120) fun v132 =>
 B1 (ld v132 h126) fun v133 =>
 B1 (lenx v133) fun v134 =>
 B1 (irem v131 v134) fun v135 =>
 j127 x119 x120 x121 x122 x123 x124 x125 v135 h126) (fun x136 x137 x138 x139 x140 x141 x142 x143 h144 =>
 J 7 (fun j145 =>
 J 9 (fun j146 =>
 B1 (ia 5 x136 x139) fun v147 =>
 B1 (fa 0 v147) fun v148 =>
 B1 (ld v148 h144) fun v149 =>
 j146 x136 x137 x138 x139 x140 x141 x142 x143 v149 h144) (fun x150 x151 x152 x153 x154 x155 x156 x157 x158 h159 =>
 J 7 (fun j160 =>
 B1 (ieq x158 (.int .i64 0)) fun v161 =>
 CD v161 (
 B1 (lda 4 x151 h159) fun v162 =>
 B1 (fa 2 x151) fun v163 =>
 B1 (ld v163 h159) fun v164 =>
 B1 (ia 4 v164 x157) fun v165 =>
 B1 (fa 1 v165) fun v166 =>
 B1 (ld v166 h159) fun v167 =>
 B1 (iadd v167 (.int .i64 1)) fun v168 =>
 B2 (cf (.func (.func 18) [] []) [v162, x157, v168, x152] h159) fun v169 h170 =>
 B1 (ex 0 v169) fun v171 =>
 B1 (ex 1 v169) fun v172 =>
 B1 (st 4 x155 v171 h170) fun h173 =>
 j160 x150 x151 x152 x153 x154 x155 v172 h173) (
 B1 (ieq x158 (.int .i64 1)) fun v174 =>
 CD v174 (
 B1 (lda 4 x151 h159) fun v175 =>
 B1 (fa 2 x151) fun v176 =>
 B1 (ld v176 h159) fun v177 =>
 B1 (ia 4 v177 x157) fun v178 =>
 B1 (fa 1 v178) fun v179 =>
 B1 (ld v179 h159) fun v180 =>
 B2 (cf (.func (.func 19) [] []) [v175, x157, v180, (.str [])] h159) fun v181 h182 =>
 B1 (ex 0 v181) fun v183 =>
 B1 (ex 1 v181) fun v184 =>
 B1 (st 4 x155 v183 h182) fun h185 =>
 j160 x150 x151 x152 x153 x154 x155 v184 h185) (
 B1 (ieq x158 (.int .i64 2)) fun v186 =>
 CD v186 (
 B1 (lda 4 x151 h159) fun v187 =>
 B1 (fa 2 x151) fun v188 =>
 B1 (ld v188 h159) fun v189 =>
 B1 (ia 4 v189 x157) fun v190 =>
 B1 (fa 1 v190) fun v191 =>
 B1 (ld v191 h159) fun v192 =>
 B2 (cf (.func (.func 21) [] []) [v187, x157, v192, x152] h159) fun v193 h194 =>
 B1 (ex 0 v193) fun v195 =>
 B1 (ex 1 v193) fun v196 =>
 B1 (st 4 x155 v195 h194) fun h197 =>
 j160 x150 x151 x152 x153 x154 x155 v196 h197) (
 B1 (ieq x158 (.int .i64 3)) fun v198 =>
 CD v198 (
 B1 (lda 4 x151 h159) fun v199 =>
 B2 (cf (.func (.func 23) [] []) [v199, x152] h159) fun v200 h201 =>
 B1 (st 4 x155 v200 h201) fun h202 =>
 j160 x150 x151 x152 x153 x154 x155 x156 h202) (
 B1 (lda 4 x151 h159) fun v203 =>
 B1 (fa 0 x151) fun v204 =>
 B1 (fa 0 v204) fun v205 =>
 B1 (ld v205 h159) fun v206 =>
 B1 (ia 6 v206 x157) fun v207 =>
 B1 (fa 5 v207) fun v208 =>
 B1 (ld v208 h159) fun v209 =>
 B2 (cf (.func (.func 26) [] []) [v203, v209] h159) fun v210 h211 =>
 B1 (ex 0 v210) fun v212 =>
 B1 (ex 1 v210) fun v213 =>
 B1 (st 4 x155 v212 h211) fun h214 =>
 j160 x150 x151 x152 x153 x154 x155 v213 h214))))) (fun x215 x216 x217 x218 x219 x220 x221 h222 =>
 j145 x215 x216 x217 x218 x219 x220 x221 h222))) (fun x223 x224 x225 x226 x227 x228 x229 h230 =>
 J 5 (fun j231 =>
 B1 (ieq x229 (.int .i64 0)) fun v232 =>
 CD v232 (
 B1 (lda 4 x228 h230) fun v233 =>
 B1 (st 4 x224 v233 h230) fun h234 =>
 j231 x223 x224 x225 x226 x227 h234) (
 j231 x223 x224 x225 x226 x227 h230)) (fun x235 x236 x237 x238 x239 h240 =>
 J 5 (fun j241 =>
 J 6 (fun j242 =>
 B1 (fa 2 x236) fun v243 =>
 B1 (ld v243 h240) fun v244 =>
 B1 (lenx v244) fun v245 =>
 B1 (fa 2 x239) fun v246 =>
 B1 (ld v246 h240) fun v247 =>
 B1 (lenx v247) fun v248 =>
 B1 (ine v245 v248) fun v249 =>
 G v249 false (fun k250 =>
 B1 (fa 0 x236) fun v251 =>
 k250 v251 h240) (fun v252 h253 =>
 G v249 false (fun k254 =>
 B1 (fa 0 v252) fun v255 =>
 k254 v255 h253) (fun v256 h257 =>
 G v249 false (fun k258 =>
 B1 (ld v256 h257) fun v259 =>
 k258 v259 h257) (fun v260 h261 =>
 G v249 false (fun k262 =>
 B1 (lenx v260) fun v263 =>
 k262 v263 h261) (fun v264 h265 =>
 G v249 false (fun k266 =>
 B1 (fa 2 x236) fun v267 =>
 k266 v267 h265) (fun v268 h269 =>
 G v249 false (fun k270 =>
 B1 (ld v268 h269) fun v271 =>
 k270 v271 h269) (fun v272 h273 =>
 G v249 false (fun k274 =>
 B1 (lenx v272) fun v275 =>
 k274 v275 h273) (fun v276 h277 =>
 G v249 false (fun k278 =>
 B1 (ine v264 v276) fun v279 =>
 k278 v279 h277) (fun v280 h281 =>
 B1 (pk v249 (.bool true) v280) fun v282 =>
 j242 x235 x236 x237 x238 x239 v282 h281) h277) h273) h269) h265) h261) h257) h253) h240) (fun x283 x284 x285 x286 x287 x288 h289 =>
 CD x288 (
 some ((.bool false), h289)) (
 j241 x283 x284 x285 x286 x287 h289))) (fun x290 x291 x292 x293 x294 h295 =>
 J 5 (fun j296 =>
 J 5 (fun j297 =>
 l_outriderlaw16_RunOrder1 J G cf j40 j50 j297 x290 x291 x292 x293 x294 (.int .i64 0) (.int .i64 0) h295) (fun x551 x552 x553 x554 x555 h556 =>
 j296 x551 x552 x553 x554 x555 h556)) (fun x557 x558 x559 x560 x561 h562 =>
 J 5 (fun j563 =>
 B1 (fa 1 x558) fun v564 =>
 B1 (ld v564 h562) fun v565 =>
 B1 (ieq v565 (.int .i64 1)) fun v566 =>
 B1 (fa 2 x558) fun v567 =>
 B1 (ld v567 h562) fun v568 =>
 B1 (lenx v568) fun v569 =>
 B1 (ieq x561 v569) fun v570 =>
 B1 (bb .neq v566 v570) fun v571 =>
 j563 x557 x558 x559 x560 v571 h562) (fun x572 x573 x574 x575 x576 h577 =>
 CD x576 (
 some ((.bool false), h577)) (
 j50 x572 x573 x574 x575 h577)))))))))) (fun x578 x579 x580 x581 h582 =>
 j49 x578 x579 x580 x581 h582)) (fun x583 x584 x585 x586 h587 =>
 B1 (iadd x586 (.int .i64 1)) fun v588 =>
 j41 x583 x584 x585 v588 h587)) (
 j40  h46)

noncomputable def l_outriderlaw16_RunOrder (J : JT) (G : GT) (cf : CF) (j40 : K.Fn 0) : K.Fn 4 := lpF P an J G cf 7 [1, 1, 1, 1, 1, 1, 0, 1, 0, 0] [1, 5, 7, 8] (fun q t H => match Nat.beq q 0 with | true => app 0 j40 (vals [] t) H | false => (fun _ _ _ => none) q t H)

theorem rl_outriderlaw16_RunOrder (J : JT) (G : GT) (cf : CF) (j40 : K.Fn 0) (j41 : K.Fn 4) (x42 x43 x44 x45 : AV) (h46 : Hp) : lpB P an J G cf 7 [1, 1, 1, 1, 1, 1, 0, 1, 0, 0] [1, 5, 7, 8] (fun q t H => match Nat.beq q 0 with | true => app 0 j40 (vals [] t) H | false => (fun _ _ _ => none) q t H) j41 [x42, x43, x44, x45] h46 = bl_outriderlaw16_RunOrder J G cf j40 j41 x42 x43 x44 x45 h46 := by kernel_rfl

theorem ql_outriderlaw16_RunOrder (cf : CF) (j40 : K.Fn 0) (x42 x43 x44 x45 : AV) (h46 : Hp) : l_outriderlaw16_RunOrder JN GO cf j40 x42 x43 x44 x45 h46 = bl_outriderlaw16_RunOrder JN GO cf j40 (l_outriderlaw16_RunOrder JN GO cf j40) x42 x43 x44 x45 h46 := Eq.trans (b := app 4 (l_outriderlaw16_RunOrder JN GO cf j40) [x42, x43, x44, x45] h46) (by kernel_rfl) ((lpQ cf _ _ _ _ [x42, x43, x44, x45] rfl h46).trans (rl_outriderlaw16_RunOrder JN GO cf j40 _ x42 x43 x44 x45 h46))

noncomputable def s_outriderlaw16_RunOrder (J : JT) (G : GT) (cf : CF) (a0 a1 : AV) (H : Hp) : R :=
 B2 (cf (.func (.func 16) [] []) [] H) fun v0 h1 =>
 B1 (unA .not v0) fun v2 =>
 CD v2 (
 some ((.bool false), h1)) (
 J 2 (fun j3 =>
 J 3 (fun j4 =>
 B1 (lens a0) fun v5 =>
 B1 (igt v5 (.int .i64 400)) fun v6 =>
 G v6 false (fun k7 =>
 k7 a1 h1) (fun v8 h9 =>
 G v6 false (fun k10 =>
 B1 (lenx v8) fun v11 =>
 k10 v11 h9) (fun v12 h13 =>
 G v6 false (fun k14 =>
 B1 (igt v12 (.int .i64 50)) fun v15 =>
 k14 v15 h13) (fun v16 h17 =>
 B1 (pk v6 (.bool true) v16) fun v18 =>
 j4 a0 a1 v18 h17) h13) h9) h1) (fun x19 x20 x21 h22 =>
 CD x21 (
 some ((.bool true), h22)) (
 j3 x19 x20 h22))) (fun x23 x24 h25 =>
 J 3 (fun j26 =>
 B2 (cf (.func (.func 25) [] []) [x23] h25) fun v27 h28 =>
 B1 (ex 0 v27) fun v29 =>
 B1 (ex 1 v27) fun v30 =>
 BN (newCells h28 [.slice0, (.int .i64 0), .slice0, .slice0] 47 0) fun i31 h32 =>
 B1 (st 4 (.ptr i31 0) v29 h32) fun h33 =>
 j26 x24 (.ptr i31 0) v30 h33) (fun x34 x35 x36 h37 =>
 B1 (ine x36 (.int .i64 0)) fun v38 =>
 CD v38 (
 some ((.bool true), h37)) (
 J 0 (fun j39 =>
 J 0 (fun j40 =>
 l_outriderlaw16_RunOrder J G cf j40 x34 x35 (.int .i64 1) (.int .i64 0) h37) (fun  h589 =>
 j39  h589)) (fun  h590 =>
 some ((.bool true), h590))))))

theorem e_outriderlaw16_RunOrder (J : JT) (G : GT) (cf : CF) (a0 a1 : AV) (H : Hp) : callF P J G prim an cf 7 [a0, a1] H = s_outriderlaw16_RunOrder J G cf a0 a1 H := by kernel_rfl

theorem c_outriderlaw16_RunOrder {a0 a1 : AV} {H : Hp} {r : AV × Hp} (h : s_outriderlaw16_RunOrder JN GO cK a0 a1 H = some r) : cK (.func (.func 7) [] []) [a0, a1] H = some r := callF_fix (first := []) (cap := []) ((e_outriderlaw16_RunOrder JN GO _ a0 a1 H).trans h)

noncomputable def s_outriderlaw16_begun (J : JT) (G : GT) (cf : CF) (a0 : AV) (H : Hp) : R :=
 BN (newCells H [.slice0, (.int .i64 0), .slice0, .slice0] 47 0) fun i0 h1 =>
 J 3 (fun j2 =>
 B2 (cf (.func (.func 9) [] []) [a0] h1) fun v3 h4 =>
 B1 (ex 0 v3) fun v5 =>
 B1 (ex 1 v3) fun v6 =>
 BN (newCells h4 [.slice0] 25 0) fun i7 h8 =>
 B1 (st 1 (.ptr i7 0) v5 h8) fun h9 =>
 j2 (.ptr i0 0) (.ptr i7 0) v6 h9) (fun x10 x11 x12 h13 =>
 J 2 (fun j14 =>
 B1 (ine x12 (.int .i64 0)) fun v15 =>
 CD v15 (
 B1 (fl [.slice0, (.int .i64 0), .slice0, .slice0] []) fun l16 =>
 B1 (st 4 x10 (.agg l16) h13) fun h17 =>
 B1 (lda 4 x10 h17) fun v18 =>
 some (.tuple [v18, x12], h17)) (
 j14 x10 x11 h13)) (fun x19 x20 h21 =>
 B1 (lda 1 x20 h21) fun v22 =>
 B2 (cf (.func (.func 17) [] []) [v22] h21) fun v23 h24 =>
 B1 (ex 0 v23) fun v25 =>
 B1 (ex 1 v23) fun v26 =>
 B1 (st 4 x19 v25 h24) fun h27 =>
 B1 (lda 4 x19 h27) fun v28 =>
 some (.tuple [v28, v26], h27)))

theorem e_outriderlaw16_begun (J : JT) (G : GT) (cf : CF) (a0 : AV) (H : Hp) : callF P J G prim an cf 25 [a0] H = s_outriderlaw16_begun J G cf a0 H := by kernel_rfl

theorem c_outriderlaw16_begun {a0 : AV} {H : Hp} {r : AV × Hp} (h : s_outriderlaw16_begun JN GO cK a0 H = some r) : cK (.func (.func 25) [] []) [a0] H = some r := callF_fix (first := []) (cap := []) ((e_outriderlaw16_begun JN GO _ a0 H).trans h)
end
end Go.Proofs.YthljbjokonglhaaGreatDoor.DfK
