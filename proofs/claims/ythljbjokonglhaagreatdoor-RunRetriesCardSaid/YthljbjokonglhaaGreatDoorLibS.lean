/- slices.Sort of numbers, as a function that is taken by its contract: in place, the row's numbers in ascending order. Conditions: the row's cells hold numbers and may be written. -/
import Derived.Test.YthljbjokonglhaaGreatDoorAm9
import Derived.Test.YthljbjokonglhaaGreatDoorShelf
import Derived.Shelf.SortM.Plain
import Derived.Shelf.SortM.SortNone
set_option linter.unusedVariables false
set_option linter.unusedSimpArgs false
namespace Go.Proofs.YthljbjokonglhaaGreatDoor.LibS
open Go Am Go.Sort Go.RowKit Go.Proofs
def zOf : AV → Option Int
  | .int .i64 z => some z
  | _ => none
def zsOf : List AV → Option (List Int)
  | [] => some []
  | v :: r => match zOf v, zsOf r with
    | some z, some l => some (z :: l)
    | _, _ => none
def nums (l : List Int) : List AV := l.map (AV.int .i64)
def sortZ (l : List Int) : List Int := l.mergeSort fun x y => decide (x ≤ y)
theorem zOf_some {v : AV} {z : Int} (h : zOf v = some z) : v = .int .i64 z := by
  unfold zOf at h
  split at h
  · cases h; rfl
  · cases h
theorem zsOf_some : ∀ {l : List AV} {zs : List Int}, zsOf l = some zs → l = nums zs
  | [], zs, h => by cases h; rfl
  | v :: r, zs, h => by
    unfold zsOf at h
    split at h
    · rename_i z l h1 h2
      cases h
      rw [zOf_some h1, zsOf_some h2]
      rfl
    · cases h
theorem zsOf_nums : ∀ (zs : List Int), zsOf (nums zs) = some zs
  | [] => rfl
  | z :: zs => by
    show (match zOf (AV.int .i64 z), zsOf (nums zs) with | some z, some l => some (z :: l) | _, _ => none) = _
    rw [zsOf_nums zs]
    rfl
theorem sortZ_len (l : List Int) : (sortZ l).length = l.length := (List.mergeSort_perm l _).length_eq
noncomputable section
def sort3 (H : Hp) (i off : Nat) (c : Tr AV) (lo hi el fl : Nat) (r : Option (List Int)) : Option (AV × Hp) := match r with
  | some zs => some (.tuple [], { H with h := H.h.upd i (.cells (c.puts off (nums (sortZ zs))) lo hi el fl) })
  | none => none
open Classical in
def sort2 (H : Hp) (i off n : Nat) (o : AO) : Option (AV × Hp) := match o with
  | .cells c lo hi el fl => if lo ≤ off ∧ off + n ≤ hi ∧ fl ≤ 1 then sort3 H i off c lo hi el fl ((cellsAt H i off n).bind zsOf) else none
  | _ => none
open Classical in
def sortP : Prim := fun args H => match args with
  | [.slice0] => some (.tuple [], H)
  | [.slice i off n cap ex es] => if n = 0 then some (.tuple [], H) else if es = 1 ∧ n < 4611686018427387904 then (H.h.get i).bind (sort2 H i off n) else none
  | _ => none
end
theorem tup0 (e : Em) : VR e (.tuple []) (.tuple #[]) := .tuple [] #[] rfl (fun i v v' h => by simp at h)
theorem sort_ok {f : Nat} (hen : ∀ as' w, (callFunc f as').run Tryz.prog w = .ok (.enter f as') w)
    (h0 : ∀ (p : Option Addr) (cap : Nat) (w : World), Calls Tryz.prog f #[.slice p 0 cap] w fun e w' => e = .returned (.tuple #[]) ∧ w' = w)
    (h1 : ∀ (blk off cap : Nat) (zs : List Int) (w : World), Holds (Value.int .i64) w blk off zs.toArray → blk < w.heap.size → zs.length < 4611686018427387904 →
      Calls Tryz.prog f #[.slice (some ⟨blk, off, none⟩) zs.length cap] w fun e w' => e = .returned (.tuple #[]) ∧ ∃ n os, w' = grow (putRow (Value.int .i64) (Sort.ahead w n) blk off (zs.mergeSort fun x y => decide (x ≤ y)).toArray) os) : PrimOne Tryz.prog f sortP := by
  intro args H v H' hp Fr W e w as' hR ha
  unfold sortP at hp
  split at hp
  · obtain ⟨a', r1, e1, hv1, hr1⟩ := ha.cons_inv
    have e3 := hr1.nil_inv
    subst e3
    cases hp
    cases hv1
    obtain rfl : as' = #[.slice none 0 0] := Array.toList_inj.1 e1
    refine ⟨hen _ _, (h0 none 0 w).mono ?_⟩
    rintro en w' ⟨rfl, rfl⟩
    exact ⟨e, _, rfl, e.le_refl, hR, tup0 e⟩
  · rename_i i off n cap ex es
    obtain ⟨a', r1, e1, hv1, hr1⟩ := ha.cons_inv
    have e3 := hr1.nil_inv
    subst e3
    split at hp
    · rename_i hn0
      subst hn0
      cases hp
      rcases hv1.slice_inv with ⟨o, c, k1, k2, k3, k4, k5, k6, rfl⟩ | ⟨_, _, a, rfl⟩
      · obtain rfl : as' = #[.slice (some ⟨e.b i, o, none⟩) 0 c] := Array.toList_inj.1 e1
        refine ⟨hen _ _, (h0 _ c w).mono ?_⟩
        rintro en w' ⟨rfl, rfl⟩
        exact ⟨e, _, rfl, e.le_refl, hR, tup0 e⟩
      · obtain rfl : as' = #[.slice (some a) 0 0] := Array.toList_inj.1 e1
        refine ⟨hen _ _, (h0 _ 0 w).mono ?_⟩
        rintro en w' ⟨rfl, rfl⟩
        exact ⟨e, _, rfl, e.le_refl, hR, tup0 e⟩
    · rename_i hn0
      split at hp
      · rename_i hes
        obtain ⟨rfl, hbig⟩ := hes
        rcases hv1.slice_inv with ⟨o, cc, k1, k2, k3, k4, k5, k6, rfl⟩ | ⟨q, _, a, rfl⟩
        · obtain ⟨ob0, hg, hp⟩ := Option.bind_eq_some_iff.1 hp
          unfold sort2 at hp
          split at hp
          · rename_i c lo hi el fl
            split at hp
            · rename_i hcond
              obtain ⟨g1, g2, g3⟩ := hcond
              cases hr : (cellsAt H i off n).bind zsOf with
              | none => rw [hr] at hp; cases hp
              | some zs =>
                rw [hr] at hp
                cases hp
                obtain ⟨l, hl, hz⟩ := Option.bind_eq_some_iff.1 hr
                have hlz := zsOf_some hz
                obtain ⟨cs, c1, c2, c3⟩ := hR.loads hl k2
                have hzn : zs.length = n := by rw [← c2, c1.1, hlz]; simp [nums]
                have hcs : ∀ j z, zs[j]? = some z → w.cell? ⟨e.b i, o + j, none⟩ = some (.int .i64 z) := by
                  intro j z hj
                  obtain ⟨v', hv', hr'⟩ := c1.get (i := j) (v := .int .i64 z) (by rw [hlz]; simp [nums, hj])
                  have := hr'.int_inv
                  subst this
                  exact c3 j _ hv'
                obtain ⟨hN, ob, hob, hor, hF⟩ := hR.obj i _ hg
                cases hor with
                | cells _ _ _ _ _ C fz hn hcc hf0 hf1 hd =>
                  have hsz : o + n ≤ C.size := by rw [hn]; omega
                  have hH : Holds (Value.int .i64) w (e.b i) o zs.toArray := by
                    intro j hj
                    have hj' : j < zs.length := by simpa using hj
                    refine ⟨?_, ?_⟩
                    · rw [hcs j zs[j] (List.getElem?_eq_getElem hj')]
                      simp [hj']
                    · have := hf1 g3 (o + j) (by omega)
                      simp only [World.frozen?, hob]
                      exact this
                  obtain rfl : as' = #[.slice (some ⟨e.b i, o, none⟩) n cc] := Array.toList_inj.1 e1
                  have hcall := h1 (e.b i) o cc zs w hH (Array.getElem?_eq_some_iff.1 hob).1 (by omega)
                  rw [hzn] at hcall
                  refine ⟨hen _ _, hcall.mono ?_⟩
                  rintro en w' ⟨rfl, m, os, rfl⟩
                  refine ⟨e, _, rfl, e.le_refl, ?_, tup0 e⟩
                  have hR1 := hR.drawn (w.drawn + m)
                  have hst : (zs.mergeSort fun x y => decide (x ≤ y)) = sortZ zs := rfl
                  have hsl := sortZ_len zs
                  rw [hst]
                  generalize sortZ zs = ss at *
                  have hR2 : RH Tryz.prog.globals.size Fr W e { H with h := H.h.upd i (.cells (c.puts off (nums ss)) lo hi el fl) } (putRow (Value.int .i64) (Sort.ahead w m) (e.b i) o ss.toArray) := by
                    refine hR1.put hg (by simp [wr, g3]) (ob' := .cells (putCells (Value.int .i64) o ss.toArray C) el fz) ?_ ?_ ?_ ?_ rfl rfl rfl
                    · simp [putRow, mapBlock, Sort.ahead]
                    · simp only [putRow, mapBlock, Sort.ahead]
                      rw [get_modify_same _ _ _ hob]
                      rfl
                    · intro k hk
                      simp only [putRow, mapBlock, Sort.ahead]
                      rw [get_modify_ne _ _ _ _ (fun q => hk q.symm)]
                    · have hps : (putCells (Value.int .i64) o ss.toArray C).size = C.size := by simp [putCells]
                      refine .cells _ lo hi el fl _ fz (by rw [hps]; exact hn) ?_ hf0 (by rw [hps]; exact hf1) hd
                      intro k u a b hk
                      rw [Tr.get_putsA] at hk
                      have hnl : (nums ss).length = n := by simp [nums]; omega
                      rw [hnl] at hk
                      by_cases hin : off ≤ k ∧ k < off + n
                      · rw [if_pos hin] at hk
                        have hjl : k - off < ss.length := by omega
                        have hu : u = .int .i64 ss[k - off] := by
                          have : (nums ss)[k - off]? = some (.int .i64 ss[k - off]) := by simp [nums, hjl]
                          rw [this] at hk
                          exact (Option.some.inj hk).symm
                        subst hu
                        refine ⟨o + (k - off), by omega, .int .i64 ss[k - off], ?_, .int _ _⟩
                        have hC : o + (k - off) < C.size := by omega
                        simp only [putCells]
                        rw [Array.getElem?_mapIdx, Array.getElem?_eq_getElem hC]
                        simp only [Option.map_some, List.size_toArray]
                        rw [if_pos (by omega), Nat.add_sub_cancel_left]
                        simp [hjl]
                      · rw [if_neg hin] at hk
                        obtain ⟨k2', hk2', u', hu', hr'⟩ := hcc k u a b hk
                        refine ⟨k2', hk2', u', ?_, hr'⟩
                        simp only [putCells]
                        rw [Array.getElem?_mapIdx, hu']
                        simp only [Option.map_some, List.size_toArray]
                        rw [if_neg (by omega)]
                  exact hR2.below ⟨rfl, rfl, rfl, by simp [grow], fun k hk => by
                    simp only [grow]
                    rw [Array.getElem?_append_left hk]⟩
            · cases hp
          · cases hp
        · omega
      · cases hp
  · cases hp
theorem sortOne : PrimOne Tryz.prog 98 sortP :=
  sort_ok (fun as' w => run_enter (by unfold NamesOK; kernel_rfl) Tryz.func98 rfl as' w)
    (fun p cap w => AnyM.slices_Sort_int_none Tryz.sortN p cap w) (fun blk off cap zs w hH hb hl => AnyM.slices_Sort_int Tryz.sortN blk off cap zs w hH hb hl)
end Go.Proofs.YthljbjokonglhaaGreatDoor.LibS
