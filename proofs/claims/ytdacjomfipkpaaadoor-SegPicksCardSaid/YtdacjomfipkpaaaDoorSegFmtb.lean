/- strconv.FormatInt at base 16: the loop; seg.Name. -/
import Derived.Test.YtdacjomfipkpaaaDoorSegFmt
import Derived.Lib.VarintBits
set_option linter.unusedVariables false
set_option linter.unusedSimpArgs false
namespace Go.Proofs.YtdacjomfipkpaaaDoor.SgW
open Go.RowKit Hp Sg

theorem and15 (u : Nat) (hu : u < 2 ^ 64) : bits BinOp.and IntKind.u64 (u : Int) 15 = ((u % 16 : Nat) : Int) := by
  have h := bits_mask .u64 64 (by decide) wraps_u64 4 (by decide) (u : Int) (by omega) (by omega)
  simpa using h

theorem dig_lt (u : Nat) (h : u < 16) : u < (ByteArray.mk #[48, 49, 50, 51, 52, 53, 54, 55, 56, 57, 97, 98, 99, 100, 101, 102, 103, 104, 105, 106, 107, 108, 109, 110, 111, 112, 113, 114, 115, 116, 117, 118, 119, 120, 121, 122]).size := by
  show u < 36
  omega
theorem dig (u : Nat) (h : u < 16) : ((ByteArray.mk #[48, 49, 50, 51, 52, 53, 54, 55, 56, 57, 97, 98, 99, 100, 101, 102, 103, 104, 105, 106, 107, 108, 109, 110, 111, 112, 113, 114, 115, 116, 117, 118, 119, 120, 121, 122])[u]'(dig_lt u h)).toNat = (hd u).toNat := by
  have k : ∀ u : Fin 16, ((ByteArray.mk #[48, 49, 50, 51, 52, 53, 54, 55, 56, 57, 97, 98, 99, 100, 101, 102, 103, 104, 105, 106, 107, 108, 109, 110, 111, 112, 113, 114, 115, 116, 117, 118, 119, 120, 121, 122])[u.val]'(dig_lt u u.isLt)).toNat = (hd u.val).toNat := by decide
  exact k ⟨u, h⟩
theorem arr65 : Tryd.prog.arrayLen 133 = 65 := by kernel_rfl
theorem arr65u : Tryd.prog.underlying 133 = some (.array (Tryd.prog.arrayLen 133) (Tryd.prog.elem 133)) := by kernel_rfl

/-- a digit laid ahead of the others -/
theorem cells_cons {wr : World} {b m : Nat} {l : List UInt8} {c : UInt8} {x : Value} (hx : x = .int .u8 c.toNat) (h : CellsAt wr b (m + 1) (bys l)) (hs : (wr.cell? ⟨b, m, none⟩).isSome = true) :
    CellsAt (wr.setCell ⟨b, m, none⟩ x) b m (bys (c :: l)) := by
  subst hx
  intro j u hj
  cases j with
  | zero =>
    simp [bys] at hj
    subst hj
    obtain ⟨v, hv⟩ := Option.isSome_iff_exists.1 hs
    exact cell_same hv
  | succ j =>
    have h2 := h j u (by simpa [bys] using hj)
    rw [cell_other (by simp)]
    rw [show m + (j + 1) = m + 1 + j by omega]
    exact h2
theorem free_set {wr : World} {b n : Nat} {a : Addr} {x : Value} (h : FreeAt wr b 0 n) : FreeAt (wr.setCell a x) b 0 n := by
  intro j hj
  obtain ⟨h1, h2⟩ := h j hj
  refine ⟨?_, ?_⟩
  · by_cases e : a = ⟨b, 0 + j, none⟩
    · subst e
      obtain ⟨v, hv⟩ := Option.isSome_iff_exists.1 h1
      rw [cell_same hv]; rfl
    · rw [cell_other e]; exact h1
  · rw [World.frozen?_setCell]; exact h2

set_option maxRecDepth 100000 in
set_option maxHeartbeats 1600000 in
theorem fmtBits (n : Nat) (hn : n < 16 ^ 11) (w : World) (h : w.cell? ⟨5, 15, none⟩ = some (.int .u8 4)) :
    Calls Tryd.prog 61 #[.slice none 0 0, .int .u64 n, .int .i64 16, .bool false, .bool false] w
      fun e w' => ∃ m, 1 ≤ m ∧ m ≤ 11 ∧ n < 16 ^ m ∧ e = .returned (.tuple #[.slice none 0 0, .string ⟨(pad m n).toArray⟩]) ∧ Only (fun _ => False) w w' := by
  have hlt : 5 < w.heap.size := World.block_lt_of_cell? w _ h
  go_enter Tryd.func61, Tryd.ntmps61
  go_wp2_with fail
  refine (pw2 _).mono ?_
  rintro e w1 ⟨rfl, rfl⟩
  go_wp2_with fail
  refine (tz _ (by rw [World.cell?_of_block (Below.heap_alloc w _ _ hlt)]; exact h)).mono ?_
  rintro e w1 ⟨rfl, rfl⟩
  go_wp2_with fail
  go_loopw [1, 13] (fun u i wr => ∃ m j : Nat, m + j = 65 ∧ j ≤ 10 ∧ i = .int .i64 (m : Int) ∧ u = .int .u64 ((n / 16 ^ j : Nat) : Int) ∧ Hid (CellsAt wr w.heap.size m (bys (pad j n))) ∧ Hid (FreeAt wr w.heap.size 0 65) ∧ Hid (Only (fun _ => False) w wr) ∧ w.heap.size < wr.heap.size) (fun _ i _ => (intOf i).toNat)
  case atStart =>
    refine ⟨65, 0, rfl, by omega, rfl, by simp, Lib.hid (fun j u hu => by simp [bys, pad] at hu), Lib.hid ?_, Lib.hid ((Only.refl _ _).alloc _), by simp⟩
    intro j hj
    rw [Nat.zero_add]
    refine ⟨?_, frozen_new _ _ _ _ _ rfl⟩
    rw [World.cell?_alloc_new]
    have : ∀ j : Fin 65, (Tryd.zeroCells133[j.val]?).isSome = true := by decide
    exact this ⟨j, hj⟩
  case round =>
    obtain ⟨m, j, hmj, hj, rfl, rfl, hc, hf, ho, hb⟩ := hrel
    have hu : n / 16 ^ j < 2 ^ 64 := Nat.lt_of_le_of_lt (Nat.div_le_self _ _) (by omega)
    have hnj : n / 16 ^ (j + 1) = n / 16 ^ j / 16 := by rw [Nat.pow_succ, Nat.div_div_eq_div_mul]
    have hpc := pad_cons j n
    have hlast : n / 16 ^ j < 16 → n < 16 ^ (j + 1) := fun hlt => by
      rw [Nat.pow_succ, Nat.mul_comm]
      exact (Nat.div_lt_iff_lt_mul (Nat.pow_pos (by omega))).1 hlt
    have hmore : 16 ≤ n / 16 ^ j → j + 1 ≤ 10 := fun hge => by
      refine Classical.byContradiction fun hcon => ?_
      have : j = 10 := by omega
      subst this
      have : n / 16 ^ 10 < 16 := (Nat.div_lt_iff_lt_mul (Nat.pow_pos (by omega))).2 (by rw [← Nat.pow_succ']; exact hn)
      omega
    generalize huu : n / 16 ^ j = u at hu hnj hpc hlast hmore
    have Hnj := Lib.hid hnj
    have Hpc := Lib.hid hpc
    have Huu := Lib.hid huu
    clear hnj hpc huu
    obtain ⟨m, rfl⟩ : ∃ k, m = k + 1 := ⟨m - 1, by omega⟩
    have hand : bits BinOp.and IntKind.u64 (u : Int) 15 = ((u % 16 : Nat) : Int) := and15 u hu
    obtain ⟨hc0, hf0⟩ := hf.out m (by omega)
    rw [Nat.zero_add] at hc0 hf0
    have Hc0 := Lib.hid hc0
    obtain ⟨v0, hv0⟩ := Option.isSome_iff_exists.1 hc0
    clear hc0
    have hd1 : (0 : Int) ≤ ((u % 16 : Nat) : Int) := by omega
    have hd2 : ((u % 16 : Nat) : Int) < 36 := by omega
    by_cases hge : 16 ≤ u
    · have hge' : (16 : Int) ≤ (u : Int) := by omega
      have hix := dig (u % 16) (by omega)
      go_wp2
      refine ⟨⟨m, j + 1, by omega, hmore hge, rfl, ?_, Lib.hid ?_, Lib.hid (free_set hf.out), Lib.hid (ho.out.setCell _ (.inl (Nat.le_refl _)) _), by simpa using hb⟩, ?_⟩
      · rw [Hnj.out]
        simp
      · rw [Hpc.out]
        exact cells_cons (by simp [hix]) hc.out Hc0.out
      · simp [intOf]
    · have hge' : ¬ (16 : Int) ≤ (u : Int) := by omega
      have hix := dig u (by omega)
      have hsl : ∀ W, (Instr.sliceAt 133 (.pointer (some ⟨w.heap.size, 0, none⟩)) (some (.int .i64 (m : Int))) none none).run Tryd.prog W = .ok (.slice (some ⟨w.heap.size, m, none⟩) (65 - m) (65 - m)) W := fun W => by
        rw [run_sliceAt_array_l W 133 ⟨w.heap.size, 0, none⟩ arr65u .i64 (m : Int) (by omega) (by rw [arr65]; omega)]
        go_simp
        omega
      have hcs : CellsAt (wr.setCell ⟨w.heap.size, m, none⟩ (.int .u8 ((hd u).toNat : Int))) w.heap.size m (bys (pad (j + 1) n)) := by
        rw [Hpc.out, Nat.mod_eq_of_lt (by omega)]
        exact cells_cons rfl hc.out Hc0.out
      have hcv : (convert 28 9 (.slice (some ⟨w.heap.size, m, none⟩) (65 - m) (65 - m))).run Tryd.prog (wr.setCell ⟨w.heap.size, m, none⟩ (.int .u8 ((hd u).toNat : Int))) = .ok (.string ⟨(pad (j + 1) n).toArray⟩) (wr.setCell ⟨w.heap.size, m, none⟩ (.int .u8 ((hd u).toNat : Int))) :=
        run_str 28 9 5 Tryd.underlying28 Tryd.underlying5 Tryd.underlying9 ⟨by rw [bys_length, pad_length]; omega, some ⟨w.heap.size, m, none⟩, 65 - m, rfl, Nat.le_refl _, by simp [maxLen]; omega, fun _ => ⟨_, _, rfl, by simpa using hb, hcs⟩⟩
      go_wp2
      go_ret2
      exact ⟨j + 1, by omega, by omega, hlast (by omega), rfl, ho.out.setCell _ (.inl (Nat.le_refl _)) _⟩

/-- strconv.FormatInt at base 16 -/
theorem fmt16 (n : Nat) (hn : n < 16 ^ 11) (w : World) (h : w.cell? ⟨5, 15, none⟩ = some (.int .u8 4)) :
    Calls Tryd.prog 23 #[.int .i64 n, .int .i64 16] w
      fun e w' => ∃ m, 1 ≤ m ∧ m ≤ 11 ∧ n < 16 ^ m ∧ e = .returned (.string ⟨(pad m n).toArray⟩) ∧ Only (fun _ => False) w w' := by
  have h0 : ¬ ((n : Int) < 0) := by omega
  have h1 : IntKind.u64.wrap (n : Int) = n := IntWalk.u64_in _ (by omega)
  have inner : Calls Tryd.prog 38 #[.int .i64 n, .int .i64 16] w
      fun e w' => ∃ m, 1 ≤ m ∧ m ≤ 11 ∧ n < 16 ^ m ∧ e = .returned (.string ⟨(pad m n).toArray⟩) ∧ Only (fun _ => False) w w' := by
    go_enter Tryd.func38, Tryd.ntmps38
    go_wp2_with fail
    refine (fmtBits n hn w h).mono ?_
    rintro e w1 ⟨m, m1, m2, m3, rfl, ho⟩
    have H1 := Lib.hid m3
    have H2 := Lib.hid ho
    clear m3 ho
    go_wp2_with fail
    go_ret
    exact ⟨m, m1, m2, H1.out, rfl, H2.out⟩
  go_enter Tryd.func23, Tryd.ntmps23
  go_wp2_with fail
  refine inner.mono ?_
  rintro e w1 ⟨m, m1, m2, m3, rfl, ho⟩
  have H1 := Lib.hid m3
  have H2 := Lib.hid ho
  clear m3 ho
  go_wp2_with fail
  go_ret
  exact ⟨m, m1, m2, H1.out, rfl, H2.out⟩

set_option maxRecDepth 100000 in
theorem name_in (n : Nat) (hn : n < 2 ^ 44) (w : World) (h : w.cell? ⟨5, 15, none⟩ = some (.int .u8 4)) :
    Calls Tryd.prog 10 #[.int .i64 n] w
      fun e w' => e = .returned (.tuple #[.string ⟨(nm n).toArray⟩, .bool true]) ∧ Only (fun _ => False) w w' := by
  have h0 : ¬ ((n : Int) < 0) := by omega
  have h1 : ¬ (17592186044415 < (n : Int)) := by omega
  go_enter Tryd.func10, Tryd.ntmps10
  go_wp2_with fail
  refine (fmt16 n (by omega) w h).mono ?_
  rintro e w1 ⟨m, m1, m2, m3, rfl, ho⟩
  have H1 := Lib.hid m3
  have H2 := Lib.hid ho
  clear m3 ho
  have hz : (ByteArray.mk (pad m n).toArray).size = m := by show (pad m n).toArray.size = m; simp [pad_length]
  obtain ⟨k, hk⟩ : ∃ k, k + m = 12 := ⟨12 - m, by omega⟩
  have hsub : (12 : Int) - (m : Int) = (k : Int) := by omega
  have hnm : nm n = [119, 45] ++ (List.replicate k 48 ++ pad m n) := by
    rw [← pad_more m k n H1.out, show m + k = 12 by omega]
    rfl
  go_wp2_with fail
  refine (rep k (by omega) (by omega) _).mono ?_
  rintro e w2 ⟨rfl, rfl⟩
  go_wp2_with fail
  go_ret2
  refine ⟨?_, H2.out⟩
  have e : (ByteArray.mk #[119, 45] ++ ByteArray.mk (Array.replicate k 48) ++ ByteArray.mk (pad m n).toArray) = ⟨(nm n).toArray⟩ := by
    apply ByteArray.ext
    simp [hnm, ByteArray.data_append]
  show Ending.returned (Value.tuple #[Value.string (ByteArray.mk #[119, 45] ++ ByteArray.mk (Array.replicate k 48) ++ ByteArray.mk (pad m n).toArray), Value.bool true]) = _
  rw [e]

theorem name_out (a : Int) (ha : a < 0 ∨ 2 ^ 44 ≤ a) (w : World) :
    Calls Tryd.prog 10 #[.int .i64 a] w
      fun e w' => e = .returned (.tuple #[.string ⟨#[]⟩, .bool false]) ∧ w' = w := by
  by_cases h0 : a < 0
  · go_enter Tryd.func10, Tryd.ntmps10
    go_wp2_with fail
    go_ret2
    exact ⟨rfl, rfl⟩
  · have h1 : 17592186044415 < a := by omega
    go_enter Tryd.func10, Tryd.ntmps10
    go_wp2_with fail
    go_ret2
    exact ⟨rfl, rfl⟩
end Go.Proofs.YtdacjomfipkpaaaDoor.SgW
