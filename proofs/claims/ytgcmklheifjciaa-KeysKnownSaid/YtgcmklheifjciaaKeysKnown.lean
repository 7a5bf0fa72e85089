/- The walk of KeysKnown. -/
import Derived.Test.YtgcmklheifjciaaKeysFoot
import Derived.Test.YtgcmklheifjciaaKeysKnownPlain
set_option linter.unusedVariables false
set_option linter.unusedSimpArgs false
namespace Go.Proofs.Ytgcmklheifjciaa.KyL
open Go.RowKit Hp KyW

theorem nmb_str (i : Nat) (w : World) (hi : i < 256) : ∀ x : Int, x = (i : Int) →
      (convert 38 9 (.slice (some ⟨w.heap.size, 0, none⟩) 1 1)).run Try.prog (w.alloc (.cells #[.int .u8 x] 5)) = .ok (.string (Ky.nmb i)) (w.alloc (.cells #[.int .u8 x] 5)) := by
  intro x hx
  refine run_str 38 9 5 Try.underlying38 Try.underlying5 Try.underlying9 (n := 1) (l := [UInt8.ofNat i]) ⟨by simp [bys], _, 1, rfl, by omega, by simp [maxLen], fun _ => ⟨w.heap.size, 0, rfl, by simp, fun j u hj => ?_⟩⟩
  rw [Nat.zero_add, World.cell?_alloc_at _ _ _ _ rfl]
  have e : ((UInt8.ofNat i).toNat : Int) = x := by simp only [UInt8.toNat_ofNat']; omega
  simp only [bys, List.map_cons, List.map_nil, e] at hj
  simpa using hj

set_option maxHeartbeats 1600000 in
set_option maxRecDepth 100000 in
theorem known (w : World) : Calls Try.prog 5 #[] w (IsT w) := by
  go_enter Try.func5, Try.ntmps5
  go_wp2_with fail
  refine (awake w).mono ?_
  rintro e w0 ⟨rfl, o0⟩
  have z0 := o0.size
  go_wp2_with fail
  refine (new_kf w0 2 2 (by decide)).mono ?_
  rintro e w1 ⟨b1, F1, rfl, k1, f1, o1⟩
  have z1 := o1.size
  go_wp2_with fail
  refine (new_kf w1 (-5) 1 (by decide)).mono ?_
  rintro e w2 ⟨b2, F2, rfl, k2, f2, o2⟩
  have z2 := o2.size
  have d12 : ∀ x, F1 x → F2 x → False := fun x h1 h2 => by have := k1.lt x h1; have := f2 x h2; omega
  go_wp2_with fail
  refine (new_kf w2 1000 128 (by decide)).mono ?_
  rintro e w3 ⟨b3, F3, rfl, k3, f3, o3⟩
  have z3 := o3.size
  have d13 : ∀ x, F1 x → F3 x → False := fun x h1 h3 => by have := f3 x h3; have := k1.lt x h1; omega
  have d23 : ∀ x, F2 x → F3 x → False := fun x h2 h3 => by have := k2.lt x h2; have := f3 x h3; omega
  have k1 := (k1.quiet o2).quiet o3
  have k2 := k2.quiet o3
  have ge1 : ∀ x, F1 x → w.heap.size ≤ x := fun x h => by have := f1 x h; omega
  have ge2 : ∀ x, F2 x → w.heap.size ≤ x := fun x h => by have := f2 x h; omega
  have ge3 : ∀ x, F3 x → w.heap.size ≤ x := fun x h => by have := f3 x h; omega
  have B3 : Below w.heap.size w w3 := ((o0.trans (o1.below _ z0 (fun x h => h.elim))).trans (o2.below _ (by omega) (fun x h => h.elim))).trans (o3.below _ (by omega) (fun x h => h.elim))
  clear f1 f2 f3 z1 z2 o0 o1 o2 o3
  have k1' := Lib.hid k1
  have k2' := Lib.hid k2
  have k3' := Lib.hid k3
  clear k1 k2 k3
  go_wp2_with fail
  refine (put_kf F1 w3 b1 2 [] k1'.out ⟨#[]⟩ ⟨#[97]⟩ 1 1 true [((⟨#[]⟩, ⟨#[97]⟩), 1)] (by decide)).mono ?_
  rintro e w4 ⟨rfl, G4, kG4, oG4, sG4⟩
  have k2_4 := Lib.hid (k2'.out.keep oG4 d12)
  have k3_4 := Lib.hid (k3'.out.keep oG4 d13)
  have k1_4 := Lib.hid kG4
  have D12_4 := dis_step d12 k2'.out.lt sG4
  have D13_4 := dis_step d13 k3'.out.lt sG4
  have B4 : Below w.heap.size w w4 := B3.trans (oG4.below _ B3.size ge1)
  have ge1_4 : ∀ x, G4 x → w.heap.size ≤ x := fun x h => by rcases sG4 x h with h | h; exact ge1 x h; have := B3.size; omega
  clear kG4 oG4 sG4
  go_wp2_with fail
  refine (put_kf G4 w4 b1 2 [((⟨#[]⟩, ⟨#[97]⟩), 1)] k1_4.out ⟨#[]⟩ ⟨#[98]⟩ 2 2 true [((⟨#[]⟩, ⟨#[97]⟩), 1), ((⟨#[]⟩, ⟨#[98]⟩), 2)] (by decide)).mono ?_
  rintro e w5 ⟨rfl, G5, kG5, oG5, sG5⟩
  have k2_5 := Lib.hid (k2_4.out.keep oG5 D12_4)
  have k3_5 := Lib.hid (k3_4.out.keep oG5 D13_4)
  have k1_5 := Lib.hid kG5
  have D12_5 := dis_step D12_4 k2_4.out.lt sG5
  have D13_5 := dis_step D13_4 k3_4.out.lt sG5
  have B5 : Below w.heap.size w w5 := B4.trans (oG5.below _ B4.size ge1_4)
  have ge1_5 : ∀ x, G5 x → w.heap.size ≤ x := fun x h => by rcases sG5 x h with h | h; exact ge1_4 x h; have := B4.size; omega
  clear kG5 oG5 sG5
  go_wp2_with fail
  refine (put_kf G5 w5 b1 2 [((⟨#[]⟩, ⟨#[97]⟩), 1), ((⟨#[]⟩, ⟨#[98]⟩), 2)] k1_5.out ⟨#[]⟩ ⟨#[97]⟩ 9 1 false [((⟨#[]⟩, ⟨#[97]⟩), 1), ((⟨#[]⟩, ⟨#[98]⟩), 2)] (by decide)).mono ?_
  rintro e w6 ⟨rfl, G6, kG6, oG6, sG6⟩
  have k2_6 := Lib.hid (k2_5.out.keep oG6 D12_5)
  have k3_6 := Lib.hid (k3_5.out.keep oG6 D13_5)
  have k1_6 := Lib.hid kG6
  have D12_6 := dis_step D12_5 k2_5.out.lt sG6
  have D13_6 := dis_step D13_5 k3_5.out.lt sG6
  have B6 : Below w.heap.size w w6 := B5.trans (oG6.below _ B5.size ge1_5)
  have ge1_6 : ∀ x, G6 x → w.heap.size ≤ x := fun x h => by rcases sG6 x h with h | h; exact ge1_5 x h; have := B5.size; omega
  clear kG6 oG6 sG6
  go_wp2_with fail
  refine (put_kf G6 w6 b1 2 [((⟨#[]⟩, ⟨#[97]⟩), 1), ((⟨#[]⟩, ⟨#[98]⟩), 2)] k1_6.out ⟨#[]⟩ ⟨#[99]⟩ 3 3 true [((⟨#[]⟩, ⟨#[98]⟩), 2), ((⟨#[]⟩, ⟨#[99]⟩), 3)] (by decide)).mono ?_
  rintro e w7 ⟨rfl, G7, kG7, oG7, sG7⟩
  have k2_7 := Lib.hid (k2_6.out.keep oG7 D12_6)
  have k3_7 := Lib.hid (k3_6.out.keep oG7 D13_6)
  have k1_7 := Lib.hid kG7
  have D12_7 := dis_step D12_6 k2_6.out.lt sG7
  have D13_7 := dis_step D13_6 k3_6.out.lt sG7
  have B7 : Below w.heap.size w w7 := B6.trans (oG7.below _ B6.size ge1_6)
  have ge1_7 : ∀ x, G7 x → w.heap.size ≤ x := fun x h => by rcases sG7 x h with h | h; exact ge1_6 x h; have := B6.size; omega
  clear kG7 oG7 sG7
  go_wp2_with fail
  refine (get_kf G7 w7 b1 2 [((⟨#[]⟩, ⟨#[98]⟩), 2), ((⟨#[]⟩, ⟨#[99]⟩), 3)] k1_7.out ⟨#[]⟩ ⟨#[97]⟩ none (by decide)).mono ?_
  rintro e w8 ⟨rfl, oG8⟩
  have k1_8 := Lib.hid (k1_7.out.quiet oG8)
  have k2_8 := Lib.hid (k2_7.out.quiet oG8)
  have k3_8 := Lib.hid (k3_7.out.quiet oG8)
  have B8 : Below w.heap.size w w8 := B7.trans (oG8.below _ B7.size (fun x h => h.elim))
  go_wp2_with fail
  refine (get_kf G7 w8 b1 2 [((⟨#[]⟩, ⟨#[98]⟩), 2), ((⟨#[]⟩, ⟨#[99]⟩), 3)] k1_8.out ⟨#[]⟩ ⟨#[98]⟩ (some 2) (by decide)).mono ?_
  rintro e w9 ⟨rfl, oG9⟩
  have k1_9 := Lib.hid (k1_8.out.quiet oG9)
  have k2_9 := Lib.hid (k2_8.out.quiet oG9)
  have k3_9 := Lib.hid (k3_8.out.quiet oG9)
  have B9 : Below w.heap.size w w9 := B8.trans (oG9.below _ B8.size (fun x h => h.elim))
  go_wp2_with fail
  refine (get_kf G7 w9 b1 2 [((⟨#[]⟩, ⟨#[98]⟩), 2), ((⟨#[]⟩, ⟨#[99]⟩), 3)] k1_9.out ⟨#[98]⟩ ⟨#[]⟩ none (by decide)).mono ?_
  rintro e w10 ⟨rfl, oG10⟩
  have k1_10 := Lib.hid (k1_9.out.quiet oG10)
  have k2_10 := Lib.hid (k2_9.out.quiet oG10)
  have k3_10 := Lib.hid (k3_9.out.quiet oG10)
  have B10 : Below w.heap.size w w10 := B9.trans (oG10.below _ B9.size (fun x h => h.elim))
  go_wp2_with fail
  refine (all_kf G7 w10 b1 2 [((⟨#[]⟩, ⟨#[98]⟩), 2), ((⟨#[]⟩, ⟨#[99]⟩), 3)] k1_10.out).mono ?_
  rintro e w11 ⟨v, rfl, hv, oG11, gv⟩
  have k1_11 := Lib.hid (k1_10.out.quiet oG11)
  have k2_11 := Lib.hid (k2_10.out.quiet oG11)
  have k3_11 := Lib.hid (k3_10.out.quiet oG11)
  have B11 : Below w.heap.size w w11 := B10.trans (oG11.below _ B10.size (fun x h => h.elim))
  have lv2 : ∀ x, F2 x → x < w10.heap.size := k2_10.out.lt
  have lv3 : ∀ x, F3 x → x < w10.heap.size := k3_10.out.lt
  obtain ⟨sb, so, cap, rfl, hcap, hcm, sl11, hcs, _⟩ := hv.form (by decide)
  simp only [List.length_cons, List.length_nil] at hcap
  have gs := gv sb rfl
  have nf2_11 : ¬ F2 sb := fun h => by have := lv2 _ h; omega
  have nf3_11 : ¬ F3 sb := fun h => by have := lv3 _ h; omega
  have cs11 := Lib.hid hcs
  clear hcs hv gv gs lv2 lv3 hcm
  simp only [List.length_cons, List.length_nil]
  go_wp2_with fail
  refine (put_kf F2 w11 b2 1 [] k2_11.out ⟨#[]⟩ ⟨#[97]⟩ 1 1 true [((⟨#[]⟩, ⟨#[97]⟩), 1)] (by decide)).mono ?_
  rintro e w12 ⟨rfl, G12, kG12, oG12, sG12⟩
  have k1_12 := Lib.hid (k1_11.out.keep oG12 (fun x h1 h2 => D12_7 x h2 h1))
  have k3_12 := Lib.hid (k3_11.out.keep oG12 d23)
  have k2_12 := Lib.hid kG12
  have D12_12 : ∀ x, G7 x → G12 x → False := fun x h1 h2 => (dis_step (fun x h1 h2 => D12_7 x h2 h1) k1_11.out.lt sG12) x h2 h1
  have D23_12 := dis_step d23 k3_11.out.lt sG12
  have B12 : Below w.heap.size w w12 := B11.trans (oG12.below _ B11.size ge2)
  have ge2_12 : ∀ x, G12 x → w.heap.size ≤ x := fun x h => by rcases sG12 x h with h | h; exact ge2 x h; have := B11.size; omega
  have cs12 := Lib.hid (cs11.out.only oG12 sl11 nf2_11)
  have sl12 : sb < w12.heap.size := Nat.lt_of_lt_of_le sl11 oG12.size
  have nf2_12 : ¬ G12 sb := fun h => by rcases sG12 sb h with h | h; exact nf2_11 h; omega
  clear kG12 oG12 sG12
  go_wp2_with fail
  refine (put_kf G12 w12 b2 1 [((⟨#[]⟩, ⟨#[97]⟩), 1)] k2_12.out ⟨#[]⟩ ⟨#[98]⟩ 1 1 true [((⟨#[]⟩, ⟨#[98]⟩), 1)] (by decide)).mono ?_
  rintro e w13 ⟨rfl, G13, kG13, oG13, sG13⟩
  have k1_13 := Lib.hid (k1_12.out.keep oG13 (fun x h1 h2 => D12_12 x h2 h1))
  have k3_13 := Lib.hid (k3_12.out.keep oG13 D23_12)
  have k2_13 := Lib.hid kG13
  have D12_13 : ∀ x, G7 x → G13 x → False := fun x h1 h2 => (dis_step (fun x h1 h2 => D12_12 x h2 h1) k1_12.out.lt sG13) x h2 h1
  have D23_13 := dis_step D23_12 k3_12.out.lt sG13
  have B13 : Below w.heap.size w w13 := B12.trans (oG13.below _ B12.size ge2_12)
  have ge2_13 : ∀ x, G13 x → w.heap.size ≤ x := fun x h => by rcases sG13 x h with h | h; exact ge2_12 x h; have := B12.size; omega
  have cs13 := Lib.hid (cs12.out.only oG13 sl12 nf2_12)
  have sl13 : sb < w13.heap.size := Nat.lt_of_lt_of_le sl12 oG13.size
  have nf2_13 : ¬ G13 sb := fun h => by rcases sG13 sb h with h | h; exact nf2_12 h; omega
  clear kG13 oG13 sG13
  go_wp2_with fail
  go_loopw [11] (fun i wr => ∃ n : Nat, n ≤ 200 ∧ i = .int .i64 n ∧ Hid (∃ F, KF F wr b3 128 (Ky.LM 128 n) ∧ (∀ x, F x → w.heap.size ≤ x) ∧ ¬ F sb ∧ ∀ x, F x → G13 x → False) ∧ Hid (CellsAt wr sb so (List.flatMap ent [((⟨#[]⟩, ⟨#[98]⟩), 2), ((⟨#[]⟩, ⟨#[99]⟩), 3)])) ∧ Hid (KF G13 wr b2 1 [((⟨#[]⟩, ⟨#[98]⟩), 1)]) ∧ Hid (Below w.heap.size w wr) ∧ Hid (sb < wr.heap.size)) (fun i _ => 200 - (intOf i).toNat)
  case atStart => exact ⟨0, by omega, rfl, Lib.hid ⟨_, by rw [Ky.LM_zero]; exact k3_13.out, ge3, nf3_11, fun x h1 h2 => D23_13 x h2 h1⟩, cs13, k2_13, Lib.hid B13, Lib.hid sl13⟩
  case round =>
    obtain ⟨n, hn, rfl, hk3, hcs, hk2, hB, hsl⟩ := hrel
    by_cases hlt : n < 200
    · have hi0 : (0 : Int) ≤ (n : Int) := by omega
      have hi1 : (n : Int) ≤ 199 := by omega
      obtain ⟨F, q1, q2, q3, q4⟩ := hk3.out
      have hx := nmb_str n wr (by omega) (n : Int) rfl
      have oA : Only (fun _ => False) wr (wr.alloc (.cells #[.int .u8 (n : Int)] 5)) := (Only.refl _ wr).alloc _
      have C := Lib.hid (put_kf F _ b3 128 _ (q1.quiet oA) ⟨#[]⟩ (Ky.nmb n) n n true _ (Ky.LM_put 128 n (by omega) (by omega)))
      have Q1 := Lib.hid q1
      have OA := Lib.hid oA
      clear q1 oA hk3
      go_wp2_with fail
      refine (C.out).mono ?_
      rintro e w5 ⟨rfl, F', r1, r2, r3⟩
      have s5 := r2.size
      simp at s5
      go_wp2_with fail
      go_roundw
      case rel =>
        have X : Only F wr w5 := Only.trans (OA.out.mono (fun _ _ h => h.elim)) r2 (fun _ _ h => h)
        have hl := hsl.out
        have hll := hB.out.size
        refine ⟨n + 1, by omega, by go_num, Lib.hid ⟨F', r1, fun x hx => ?_, fun h => ?_, fun x h1 h2 => ?_⟩, Lib.hid (hcs.out.only X hsl.out q3), Lib.hid (hk2.out.keep X q4), Lib.hid (hB.out.trans (X.below _ hB.out.size q2)), Lib.hid (Nat.lt_of_lt_of_le hsl.out X.size)⟩
        · rcases r3 x hx with h | h
          · exact q2 x h
          · simp at h; omega
        · rcases r3 sb h with h | h
          · exact q3 h
          · simp at h; omega
        · rcases r3 x h1 with h | h
          · exact q4 x h h2
          · have := hk2.out.lt x h2; simp at h; omega
      case measure => simp [intOf]; omega
    · obtain rfl : n = 200 := by omega
      obtain ⟨F, q1, q2, q3, q4⟩ := hk3.out
      have c0 := hcs.out 0 _ rfl
      have c1 := hcs.out 1 _ rfl
      have c2 := hcs.out 2 _ rfl
      have c5 := hcs.out 5 _ rfl
      simp only [Nat.add_zero] at c0
      have C2 := Lib.hid (fun W (h : KF G13 W b2 1 [((⟨#[]⟩, ⟨#[98]⟩), 1)]) => len_kf G13 W b2 1 1 _ h rfl)
      have Q1 := Lib.hid q1
      clear q1 hk3
      go_wp2_with fail
      refine (C2.out wr hk2.out).mono ?_
      rintro e w5 ⟨rfl, r1⟩
      have C3 := Lib.hid (len_kf F w5 b3 128 128 _ (Q1.out.quiet r1) (by rw [Ky.LM_length]; rfl))
      have R1 := Lib.hid r1
      clear r1
      go_wp2_with fail
      refine (C3.out).mono ?_
      rintro e w6 ⟨rfl, r2⟩
      go_wp2_with fail
      go_ret
      exact ⟨rfl, (hB.out.trans (R1.out.below _ hB.out.size (fun x h => h.elim))).trans (r2.below _ (Nat.le_trans hB.out.size R1.out.size) (fun x h => h.elim))⟩
theorem known_raw {H : Type} (enc : TypeId × Value → H) (W : World) (base : Nat) : Calls Try.prog 5 #[] W (IsT W) := known W
end Go.Proofs.Ytgcmklheifjciaa.KyL
