/- The walks of the five laws of layer 13: each returns true. -/
import Derived.Test.YtphfncjglodgbaaBackWalks
import Derived.RowKit3
import Derived.Deep.RegionWith
set_option linter.unusedVariables false
namespace Go.Proofs.Ytphfncjglodgbaa.BkL
open Go.RowKit BkW

def IsB (v : Bool) (w : World) (e : Ending) (w' : World) : Prop := e = .returned (.bool v) ∧ w = w'
theorem IsB.of {v x : Bool} {w : World} (h : x = v) : IsB v w (.returned (.bool x)) w := ⟨by rw [h], rfl⟩
theorem IsB.grown {w : World} {f : Nat} {args : Array Value} (h : Calls Try.prog f args w (IsB true w)) : Calls Try.prog f args w fun e w' => e = .returned (.bool true) ∧ Grown w w' :=
  h.mono fun e w' ⟨h1, h2⟩ => ⟨h1, by subst h2; exact Grown.refl _⟩

theorem d34 : Bk.delay 3 4 = 24 := by decide
theorem t34 : Bk.total 3 4 = 45 := by decide
theorem y345 : Bk.tri 3 45 = 4 := Bk.tri_is 3 45 (by decide) (by decide) 4 (by decide) (by decide) (.inr (by decide))

theorem awake (w : World) : Calls Try.prog 8 #[] w (IsB true w) := by
  have c1 := Lib.hid (delay_any 3 4 w (by omega))
  have c2 := Lib.hid (total_any 3 4 w (by omega) (by omega))
  have c3 := Lib.hid (try_any 3 45 w (by omega) (by omega) (by omega))
  rw [d34] at c1
  rw [t34] at c2
  rw [y345] at c3
  go_enter Try.func8, Try.ntmps8
  go_wp2_with (first | (go_at_call 9; refine (c1.out).mono ?_; rintro e w' ⟨rfl, rfl⟩) | (go_at_call 10; refine (c2.out).mono ?_; rintro e w' ⟨rfl, rfl⟩) | (go_at_call 11; refine (c3.out).mono ?_; rintro e w' ⟨rfl, rfl⟩))
  go_ret
  exact IsB.of rfl

theorem i64_bd (a : Int) (h : (Lit.int .i64 a).wf = true) : -9223372036854775808 ≤ a ∧ a ≤ 9223372036854775807 := by
  simpa [Lit.wf, IntKind.min, IntKind.max, IntKind.signed, IntKind.bits] using h

/-- BackSays -/
theorem says (b t v : Int) (w : World) (hb : -9223372036854775808 ≤ b ∧ b ≤ 9223372036854775807) (ht : -9223372036854775808 ≤ t ∧ t ≤ 9223372036854775807) (hv : -9223372036854775808 ≤ v ∧ v ≤ 9223372036854775807) :
    Calls Try.prog 4 #[.int .i64 b, .int .i64 t, .int .i64 v] w (IsB true w) := by
  obtain ⟨x, hx⟩ : ∃ x, Hid (x = Bk.delay b t) := ⟨_, Lib.hid rfl⟩
  obtain ⟨y, hy⟩ : ∃ y, Hid (y = Bk.total b t) := ⟨_, Lib.hid rfl⟩
  obtain ⟨z, hz⟩ : ∃ z, Hid (z = Bk.tri b v) := ⟨_, Lib.hid rfl⟩
  have c0 := Lib.hid (awake w)
  have c1 := Lib.hid (delay_any b t w ht.2)
  have c2 := Lib.hid (total_any b t w ht.1 ht.2)
  have c3 := Lib.hid (try_any b v w hb.2 hv.1 hv.2)
  have c4 := Lib.hid (rdelay_any b t w hb.2 ht.2)
  have c5 := Lib.hid (rtotal_any b t w hb.2 ht.1 ht.2)
  have c6 := Lib.hid (rtry_any b v w hb.2 hv.1 hv.2)
  rw [← hx.out] at c1 c4
  rw [← hy.out] at c2 c5
  rw [← hz.out] at c3 c6
  go_enter Try.func4, Try.ntmps4
  go_wp2_with (first | (go_at_call 8; refine (c0.out).mono ?_; rintro e w' ⟨rfl, rfl⟩) | (go_at_call 9; refine (c1.out).mono ?_; rintro e w' ⟨rfl, rfl⟩) | (go_at_call 10; refine (c2.out).mono ?_; rintro e w' ⟨rfl, rfl⟩) | (go_at_call 11; refine (c3.out).mono ?_; rintro e w' ⟨rfl, rfl⟩) | (go_at_call 12; refine (c4.out).mono ?_; rintro e w' ⟨rfl, rfl⟩) | (go_at_call 13; refine (c5.out).mono ?_; rintro e w' ⟨rfl, rfl⟩) | (go_at_call 14; refine (c6.out).mono ?_; rintro e w' ⟨rfl, rfl⟩))
  go_ret
  exact IsB.of rfl
theorem says_walk (a0 a1 a2 : Int) (w0 : (Lit.int .i64 a0).wf = true) (w1 : (Lit.int .i64 a1).wf = true) (w2 : (Lit.int .i64 a2).wf = true) (w : World) :
    Calls Try.prog 4 #[.int .i64 a0, .int .i64 a1, .int .i64 a2] w fun e w' => e = .returned (.bool true) ∧ Grown w w' :=
  IsB.grown (says a0 a1 a2 w (i64_bd _ w0) (i64_bd _ w1) (i64_bd _ w2))

/-- BackSums -/
theorem sums (b t : Int) (w : World) (hb : -9223372036854775808 ≤ b ∧ b ≤ 9223372036854775807) (ht : -9223372036854775808 ≤ t ∧ t ≤ 9223372036854775807) :
    Calls Try.prog 6 #[.int .i64 b, .int .i64 t] w (IsB true w) := by
  have c0 := Lib.hid (awake w)
  by_cases h3 : 300 < t
  · go_enter Try.func6, Try.ntmps6
    go_wp2_with (first | (go_at_call 8; refine (c0.out).mono ?_; rintro e w' ⟨rfl, rfl⟩))
    go_ret
    exact IsB.of rfl
  · have c2 := Lib.hid (total_any b t w ht.1 ht.2)
    obtain ⟨y, hy⟩ : ∃ y, Hid (y = Bk.total b t) := ⟨_, Lib.hid rfl⟩
    rw [← hy.out] at c2
    go_enter Try.func6, Try.ntmps6
    go_wp2_with (first | (go_at_call 8; refine (c0.out).mono ?_; rintro e w' ⟨rfl, rfl⟩))
    go_loop [5, 6] (fun s k => ∃ (n : Nat) (x : Int), Hid (x = Bk.total b n) ∧ (n : Int) ≤ max t 0 ∧ 0 ≤ x ∧ x ≤ 64000 * n ∧ s = .int .i64 x ∧ k = .int .i64 ((n : Int) + 1)) (fun _ k => (400 - intOf k).toNat)
    case atStart => exact ⟨0, _, Lib.hid (by rw [Bk.total_neg _ _ (by omega)]), by omega, by omega, by omega, rfl, rfl⟩
    case round =>
      obtain ⟨n, x, hx, hn, h1, h2, rfl, rfl⟩ := hrel
      have hdb := Bk.delay_bd b ((n : Int) + 1)
      have hts := Lib.hid (Bk.total_step b n (by omega))
      obtain ⟨d, hd2⟩ : ∃ d, Hid (d = Bk.delay b ((n : Int) + 1)) := ⟨_, Lib.hid rfl⟩
      rw [← hd2.out] at hdb
      have C := Lib.hid (delay_any b ((n : Int) + 1) w (by omega))
      rw [← hd2.out] at C
      by_cases c1 : (n : Int) + 1 ≤ t
      · go_wp2_with (go_at_call 9; refine (C.out).mono ?_; rintro e w' ⟨rfl, rfl⟩)
        go_round
        case rel => exact ⟨n + 1, _, Lib.hid (by rw [show ((n + 1 : Nat) : Int) = (n : Int) + 1 by omega, hts.out, ← hx.out, ← hd2.out]), by omega, by omega, by omega, rfl, by go_num⟩
        case measure => simp [intOf]; omega
      · have e : (y == x) = true := by
          rw [hy.out, hx.out, beq_iff_eq]
          by_cases c2 : t < 1
          · rw [Bk.total_neg _ _ c2, Bk.total_neg _ _ (by omega)]
          · congr 1; omega
        go_wp2_with (go_at_call 10; refine (c2.out).mono ?_; rintro e w' ⟨rfl, rfl⟩)
        go_ret
        exact IsB.of rfl
theorem sums_walk (a0 a1 : Int) (w0 : (Lit.int .i64 a0).wf = true) (w1 : (Lit.int .i64 a1).wf = true) (w : World) :
    Calls Try.prog 6 #[.int .i64 a0, .int .i64 a1] w fun e w' => e = .returned (.bool true) ∧ Grown w w' :=
  IsB.grown (sums a0 a1 w (i64_bd _ w0) (i64_bd _ w1))

/-- BackMore -/
theorem more (a b t v : Int) (w : World) (ha : -9223372036854775808 ≤ a ∧ a ≤ 9223372036854775807) (hb : -9223372036854775808 ≤ b ∧ b ≤ 9223372036854775807) (ht : -9223372036854775808 ≤ t ∧ t ≤ 9223372036854775807) (hv : -9223372036854775808 ≤ v ∧ v ≤ 9223372036854775807) :
    Calls Try.prog 7 #[.int .i64 a, .int .i64 b, .int .i64 t, .int .i64 v] w (IsB true w) := by
  have c0 := Lib.hid (awake w)
  by_cases k1 : a < 1
  · go_enter Try.func7, Try.ntmps7
    go_wp2_with (first | (go_at_call 8; refine (c0.out).mono ?_; rintro e w' ⟨rfl, rfl⟩))
    go_ret
    exact IsB.of rfl
  by_cases k2 : b < a
  · go_enter Try.func7, Try.ntmps7
    go_wp2_with (first | (go_at_call 8; refine (c0.out).mono ?_; rintro e w' ⟨rfl, rfl⟩))
    go_ret
    exact IsB.of rfl
  by_cases k3 : t < 1
  · go_enter Try.func7, Try.ntmps7
    go_wp2_with (first | (go_at_call 8; refine (c0.out).mono ?_; rintro e w' ⟨rfl, rfl⟩))
    go_ret
    exact IsB.of rfl
  by_cases k4 : v < 0
  · go_enter Try.func7, Try.ntmps7
    go_wp2_with (first | (go_at_call 8; refine (c0.out).mono ?_; rintro e w' ⟨rfl, rfl⟩))
    go_ret
    exact IsB.of rfl
  have h1 := Bk.delay_mono a b t (by omega) (by omega)
  have h2 := Bk.total_mono a b t (by omega) (by omega)
  have h3 := Bk.tri_anti a b v (by omega) (by omega) (by omega)
  have c1 := Lib.hid (delay_any a t w ht.2)
  have c2 := Lib.hid (delay_any b t w ht.2)
  have c3 := Lib.hid (total_any a t w ht.1 ht.2)
  have c4 := Lib.hid (total_any b t w ht.1 ht.2)
  have c5 := Lib.hid (try_any a v w ha.2 hv.1 hv.2)
  have c6 := Lib.hid (try_any b v w hb.2 hv.1 hv.2)
  generalize Bk.delay a t = x1 at h1 c1
  generalize Bk.delay b t = x2 at h1 c2
  generalize Bk.total a t = y1 at h2 c3
  generalize Bk.total b t = y2 at h2 c4
  generalize Bk.tri a v = z1 at h3 c5
  generalize Bk.tri b v = z2 at h3 c6
  go_enter Try.func7, Try.ntmps7
  go_wp2_with (first | (go_at_call 8; refine (c0.out).mono ?_; rintro e w' ⟨rfl, rfl⟩) | (go_at_call_of 9 (Value.int IntKind.i64 a); refine (c1.out).mono ?_; rintro e w' ⟨rfl, rfl⟩) | (go_at_call_of 9 (Value.int IntKind.i64 b); refine (c2.out).mono ?_; rintro e w' ⟨rfl, rfl⟩) | (go_at_call_of 10 (Value.int IntKind.i64 a); refine (c3.out).mono ?_; rintro e w' ⟨rfl, rfl⟩) | (go_at_call_of 10 (Value.int IntKind.i64 b); refine (c4.out).mono ?_; rintro e w' ⟨rfl, rfl⟩) | (go_at_call_of 11 (Value.int IntKind.i64 a); refine (c5.out).mono ?_; rintro e w' ⟨rfl, rfl⟩) | (go_at_call_of 11 (Value.int IntKind.i64 b); refine (c6.out).mono ?_; rintro e w' ⟨rfl, rfl⟩))
  go_ret
  exact IsB.of (by first | (simp; done) | (simp; omega))
theorem more_walk (a0 a1 a2 a3 : Int) (w0 : (Lit.int .i64 a0).wf = true) (w1 : (Lit.int .i64 a1).wf = true) (w2 : (Lit.int .i64 a2).wf = true) (w3 : (Lit.int .i64 a3).wf = true) (w : World) :
    Calls Try.prog 7 #[.int .i64 a0, .int .i64 a1, .int .i64 a2, .int .i64 a3] w fun e w' => e = .returned (.bool true) ∧ Grown w w' :=
  IsB.grown (more a0 a1 a2 a3 w (i64_bd _ w0) (i64_bd _ w1) (i64_bd _ w2) (i64_bd _ w3))

/-! BackTries -/
set_option maxHeartbeats 400000 in
theorem tries_aa (b t v x1 x2 y1 y2 y3 y4 z1 : Int) (w : World) (hv : -9223372036854775808 ≤ v ∧ v ≤ 9223372036854775807) (k1 : ¬ b < 1) (k2 : ¬ t < 1) (k3 : ¬ 1000 < t) (k4 : ¬ v < 0)
    (h3 : 0 ≤ x1 ∧ x1 ≤ 64000) (h8 : 0 ≤ x2 ∧ x2 ≤ 64000) (h4 : 0 ≤ y1 ∧ y1 ≤ 137438953408000) (h5 : 0 ≤ z1 ∧ z1 ≤ 2147483647) (h6 : y3 ≤ v)
    (e1 : ¬ x2 < x1) (e2 : (y2 != y1 + x2) = false) (e3 : ¬ 64000 < x1)
    (c0 : Hid (Calls Try.prog 8 #[] w (IsB true w)))
    (c1 : Hid (Calls Try.prog 9 #[.int .i64 b, .int .i64 t] w (IsInt x1 w)))
    (c2 : Hid (Calls Try.prog 9 #[.int .i64 b, .int .i64 (t + 1)] w (IsInt x2 w)))
    (c3 : Hid (Calls Try.prog 10 #[.int .i64 b, .int .i64 t] w (IsInt y1 w)))
    (c4 : Hid (Calls Try.prog 10 #[.int .i64 b, .int .i64 (t + 1)] w (IsInt y2 w)))
    (c5 : Hid (Calls Try.prog 11 #[.int .i64 b, .int .i64 v] w (IsInt z1 w)))
    (c6 : Hid (Calls Try.prog 10 #[.int .i64 b, .int .i64 z1] w (IsInt y3 w)))
    (c7 : Hid (Calls Try.prog 10 #[.int .i64 b, .int .i64 (z1 + 1)] w (IsInt y4 w)))
    (d2 : (x2 != 2 * x1) = false) (d3 : (z1 == 2147483647) = true) :
    Calls Try.prog 5 #[.int .i64 b, .int .i64 t, .int .i64 v] w (IsB true w) := by
  go_enter Try.func5, Try.ntmps5
  go_wp2_with fail
  refine (c0.out).mono ?_; rintro e w' ⟨rfl, rfl⟩
  go_wp2_with fail
  refine (c1.out).mono ?_; rintro e w' ⟨rfl, rfl⟩
  go_wp2_with fail
  refine (c2.out).mono ?_; rintro e w' ⟨rfl, rfl⟩
  go_wp2_with fail
  refine (c5.out).mono ?_; rintro e w' ⟨rfl, rfl⟩
  go_wp2_with fail
  refine (c4.out).mono ?_; rintro e w' ⟨rfl, rfl⟩
  go_wp2_with fail
  refine (c3.out).mono ?_; rintro e w' ⟨rfl, rfl⟩
  go_wp2_with fail
  refine (c6.out).mono ?_; rintro e w' ⟨rfl, rfl⟩
  go_wp2_with fail
  go_ret
  exact IsB.of (by simp)
set_option maxHeartbeats 400000 in
theorem tries_ab (b t v x1 x2 y1 y2 y3 y4 z1 : Int) (w : World) (hv : -9223372036854775808 ≤ v ∧ v ≤ 9223372036854775807) (k1 : ¬ b < 1) (k2 : ¬ t < 1) (k3 : ¬ 1000 < t) (k4 : ¬ v < 0)
    (h3 : 0 ≤ x1 ∧ x1 ≤ 64000) (h8 : 0 ≤ x2 ∧ x2 ≤ 64000) (h4 : 0 ≤ y1 ∧ y1 ≤ 137438953408000) (h5 : 0 ≤ z1 ∧ z1 ≤ 2147483647) (h6 : y3 ≤ v)
    (e1 : ¬ x2 < x1) (e2 : (y2 != y1 + x2) = false) (e3 : ¬ 64000 < x1)
    (c0 : Hid (Calls Try.prog 8 #[] w (IsB true w)))
    (c1 : Hid (Calls Try.prog 9 #[.int .i64 b, .int .i64 t] w (IsInt x1 w)))
    (c2 : Hid (Calls Try.prog 9 #[.int .i64 b, .int .i64 (t + 1)] w (IsInt x2 w)))
    (c3 : Hid (Calls Try.prog 10 #[.int .i64 b, .int .i64 t] w (IsInt y1 w)))
    (c4 : Hid (Calls Try.prog 10 #[.int .i64 b, .int .i64 (t + 1)] w (IsInt y2 w)))
    (c5 : Hid (Calls Try.prog 11 #[.int .i64 b, .int .i64 v] w (IsInt z1 w)))
    (c6 : Hid (Calls Try.prog 10 #[.int .i64 b, .int .i64 z1] w (IsInt y3 w)))
    (c7 : Hid (Calls Try.prog 10 #[.int .i64 b, .int .i64 (z1 + 1)] w (IsInt y4 w)))
    (d2 : (x2 != 2 * x1) = false) (d3 : (z1 == 2147483647) = false) (d4 : v < y4) :
    Calls Try.prog 5 #[.int .i64 b, .int .i64 t, .int .i64 v] w (IsB true w) := by
  go_enter Try.func5, Try.ntmps5
  go_wp2_with fail
  refine (c0.out).mono ?_; rintro e w' ⟨rfl, rfl⟩
  go_wp2_with fail
  refine (c1.out).mono ?_; rintro e w' ⟨rfl, rfl⟩
  go_wp2_with fail
  refine (c2.out).mono ?_; rintro e w' ⟨rfl, rfl⟩
  go_wp2_with fail
  refine (c5.out).mono ?_; rintro e w' ⟨rfl, rfl⟩
  go_wp2_with fail
  refine (c4.out).mono ?_; rintro e w' ⟨rfl, rfl⟩
  go_wp2_with fail
  refine (c3.out).mono ?_; rintro e w' ⟨rfl, rfl⟩
  go_wp2_with fail
  refine (c6.out).mono ?_; rintro e w' ⟨rfl, rfl⟩
  go_wp2_with fail
  refine (c7.out).mono ?_; rintro e w' ⟨rfl, rfl⟩
  go_wp2_with fail
  go_ret
  exact IsB.of (by first | (simp; done) | (simp; omega))
set_option maxHeartbeats 400000 in
theorem tries_ba (b t v x1 x2 y1 y2 y3 y4 z1 : Int) (w : World) (hv : -9223372036854775808 ≤ v ∧ v ≤ 9223372036854775807) (k1 : ¬ b < 1) (k2 : ¬ t < 1) (k3 : ¬ 1000 < t) (k4 : ¬ v < 0)
    (h3 : 0 ≤ x1 ∧ x1 ≤ 64000) (h8 : 0 ≤ x2 ∧ x2 ≤ 64000) (h4 : 0 ≤ y1 ∧ y1 ≤ 137438953408000) (h5 : 0 ≤ z1 ∧ z1 ≤ 2147483647) (h6 : y3 ≤ v)
    (e1 : ¬ x2 < x1) (e2 : (y2 != y1 + x2) = false) (e3 : ¬ 64000 < x1)
    (c0 : Hid (Calls Try.prog 8 #[] w (IsB true w)))
    (c1 : Hid (Calls Try.prog 9 #[.int .i64 b, .int .i64 t] w (IsInt x1 w)))
    (c2 : Hid (Calls Try.prog 9 #[.int .i64 b, .int .i64 (t + 1)] w (IsInt x2 w)))
    (c3 : Hid (Calls Try.prog 10 #[.int .i64 b, .int .i64 t] w (IsInt y1 w)))
    (c4 : Hid (Calls Try.prog 10 #[.int .i64 b, .int .i64 (t + 1)] w (IsInt y2 w)))
    (c5 : Hid (Calls Try.prog 11 #[.int .i64 b, .int .i64 v] w (IsInt z1 w)))
    (c6 : Hid (Calls Try.prog 10 #[.int .i64 b, .int .i64 z1] w (IsInt y3 w)))
    (c7 : Hid (Calls Try.prog 10 #[.int .i64 b, .int .i64 (z1 + 1)] w (IsInt y4 w)))
    (d1 : (x2 != 2 * x1) = true) (d2 : (x2 != 64000) = false) (d3 : (z1 == 2147483647) = true) :
    Calls Try.prog 5 #[.int .i64 b, .int .i64 t, .int .i64 v] w (IsB true w) := by
  go_enter Try.func5, Try.ntmps5
  go_wp2_with fail
  refine (c0.out).mono ?_; rintro e w' ⟨rfl, rfl⟩
  go_wp2_with fail
  refine (c1.out).mono ?_; rintro e w' ⟨rfl, rfl⟩
  go_wp2_with fail
  refine (c2.out).mono ?_; rintro e w' ⟨rfl, rfl⟩
  go_wp2_with fail
  refine (c5.out).mono ?_; rintro e w' ⟨rfl, rfl⟩
  go_wp2_with fail
  refine (c4.out).mono ?_; rintro e w' ⟨rfl, rfl⟩
  go_wp2_with fail
  refine (c3.out).mono ?_; rintro e w' ⟨rfl, rfl⟩
  go_wp2_with fail
  refine (c6.out).mono ?_; rintro e w' ⟨rfl, rfl⟩
  go_wp2_with fail
  go_ret
  exact IsB.of (by simp)
set_option maxHeartbeats 400000 in
theorem tries_bb (b t v x1 x2 y1 y2 y3 y4 z1 : Int) (w : World) (hv : -9223372036854775808 ≤ v ∧ v ≤ 9223372036854775807) (k1 : ¬ b < 1) (k2 : ¬ t < 1) (k3 : ¬ 1000 < t) (k4 : ¬ v < 0)
    (h3 : 0 ≤ x1 ∧ x1 ≤ 64000) (h8 : 0 ≤ x2 ∧ x2 ≤ 64000) (h4 : 0 ≤ y1 ∧ y1 ≤ 137438953408000) (h5 : 0 ≤ z1 ∧ z1 ≤ 2147483647) (h6 : y3 ≤ v)
    (e1 : ¬ x2 < x1) (e2 : (y2 != y1 + x2) = false) (e3 : ¬ 64000 < x1)
    (c0 : Hid (Calls Try.prog 8 #[] w (IsB true w)))
    (c1 : Hid (Calls Try.prog 9 #[.int .i64 b, .int .i64 t] w (IsInt x1 w)))
    (c2 : Hid (Calls Try.prog 9 #[.int .i64 b, .int .i64 (t + 1)] w (IsInt x2 w)))
    (c3 : Hid (Calls Try.prog 10 #[.int .i64 b, .int .i64 t] w (IsInt y1 w)))
    (c4 : Hid (Calls Try.prog 10 #[.int .i64 b, .int .i64 (t + 1)] w (IsInt y2 w)))
    (c5 : Hid (Calls Try.prog 11 #[.int .i64 b, .int .i64 v] w (IsInt z1 w)))
    (c6 : Hid (Calls Try.prog 10 #[.int .i64 b, .int .i64 z1] w (IsInt y3 w)))
    (c7 : Hid (Calls Try.prog 10 #[.int .i64 b, .int .i64 (z1 + 1)] w (IsInt y4 w)))
    (d1 : (x2 != 2 * x1) = true) (d2 : (x2 != 64000) = false) (d3 : (z1 == 2147483647) = false) (d4 : v < y4) :
    Calls Try.prog 5 #[.int .i64 b, .int .i64 t, .int .i64 v] w (IsB true w) := by
  go_enter Try.func5, Try.ntmps5
  go_wp2_with fail
  refine (c0.out).mono ?_; rintro e w' ⟨rfl, rfl⟩
  go_wp2_with fail
  refine (c1.out).mono ?_; rintro e w' ⟨rfl, rfl⟩
  go_wp2_with fail
  refine (c2.out).mono ?_; rintro e w' ⟨rfl, rfl⟩
  go_wp2_with fail
  refine (c5.out).mono ?_; rintro e w' ⟨rfl, rfl⟩
  go_wp2_with fail
  refine (c4.out).mono ?_; rintro e w' ⟨rfl, rfl⟩
  go_wp2_with fail
  refine (c3.out).mono ?_; rintro e w' ⟨rfl, rfl⟩
  go_wp2_with fail
  refine (c6.out).mono ?_; rintro e w' ⟨rfl, rfl⟩
  go_wp2_with fail
  refine (c7.out).mono ?_; rintro e w' ⟨rfl, rfl⟩
  go_wp2_with fail
  go_ret
  exact IsB.of (by first | (simp; done) | (simp; omega))
theorem tries (b t v : Int) (w : World) (hb : -9223372036854775808 ≤ b ∧ b ≤ 9223372036854775807) (ht : -9223372036854775808 ≤ t ∧ t ≤ 9223372036854775807) (hv : -9223372036854775808 ≤ v ∧ v ≤ 9223372036854775807) :
    Calls Try.prog 5 #[.int .i64 b, .int .i64 t, .int .i64 v] w (IsB true w) := by
  have c0 := Lib.hid (awake w)
  by_cases k1 : b < 1
  · go_enter Try.func5, Try.ntmps5
    go_wp2_with (first | (go_at_call 8; refine (c0.out).mono ?_; rintro e w' ⟨rfl, rfl⟩))
    go_ret
    exact IsB.of rfl
  by_cases k2 : t < 1
  · go_enter Try.func5, Try.ntmps5
    go_wp2_with (first | (go_at_call 8; refine (c0.out).mono ?_; rintro e w' ⟨rfl, rfl⟩))
    go_ret
    exact IsB.of rfl
  by_cases k3 : 1000 < t
  · go_enter Try.func5, Try.ntmps5
    go_wp2_with (first | (go_at_call 8; refine (c0.out).mono ?_; rintro e w' ⟨rfl, rfl⟩))
    go_ret
    exact IsB.of rfl
  by_cases k4 : v < 0
  · go_enter Try.func5, Try.ntmps5
    go_wp2_with (first | (go_at_call 8; refine (c0.out).mono ?_; rintro e w' ⟨rfl, rfl⟩))
    go_ret
    exact IsB.of rfl
  have h1 := Bk.delay_step b t (by omega) (by omega)
  have h2 := Lib.hid (Bk.total_add b t (by omega) (by omega))
  have h3 := Bk.delay_bd b t
  have h8 := Bk.delay_bd b (t + 1)
  have h4 := Bk.total_bd b t
  have h5 := Bk.tri_bd b v
  have h6 := Bk.total_tri b v (by omega) (by omega)
  have h7 := Bk.total_tri_past b v (by omega) (by omega)
  have c1 := Lib.hid (delay_any b t w ht.2)
  have c2 := Lib.hid (delay_any b (t + 1) w (by omega))
  have c3 := Lib.hid (total_any b t w ht.1 ht.2)
  have c4 := Lib.hid (total_any b (t + 1) w (by omega) (by omega))
  have c5 := Lib.hid (try_any b v w hb.2 hv.1 hv.2)
  have c6 := Lib.hid (total_any b (Bk.tri b v) w (by omega) (by omega))
  have c7 := Lib.hid (total_any b (Bk.tri b v + 1) w (by omega) (by omega))
  have e1 : ¬ Bk.delay b (t + 1) < Bk.delay b t := by omega
  have e2 : (Bk.total b (t + 1) != Bk.total b t + Bk.delay b (t + 1)) = false := by have := h2.out; simp; omega
  have e3 : ¬ 64000 < Bk.delay b t := by omega
  by_cases d1 : (Bk.delay b (t + 1) != 2 * Bk.delay b t) = true
  · have d2 : (Bk.delay b (t + 1) != 64000) = false := by simp at d1 ⊢; omega
    by_cases d3 : (Bk.tri b v == 2147483647) = true
    · exact tries_ba b t v _ _ _ _ _ _ _ w hv k1 k2 k3 k4 h3 h8 h4 h5 h6 e1 e2 e3 c0 c1 c2 c3 c4 c5 c6 c7 d1 d2 d3
    · exact tries_bb b t v _ _ _ _ _ _ _ w hv k1 k2 k3 k4 h3 h8 h4 h5 h6 e1 e2 e3 c0 c1 c2 c3 c4 c5 c6 c7 d1 d2 (by simpa using d3) (by simp at d3; omega)
  · have d2 : (Bk.delay b (t + 1) != 2 * Bk.delay b t) = false := by simpa using d1
    by_cases d3 : (Bk.tri b v == 2147483647) = true
    · exact tries_aa b t v _ _ _ _ _ _ _ w hv k1 k2 k3 k4 h3 h8 h4 h5 h6 e1 e2 e3 c0 c1 c2 c3 c4 c5 c6 c7 d2 d3
    · exact tries_ab b t v _ _ _ _ _ _ _ w hv k1 k2 k3 k4 h3 h8 h4 h5 h6 e1 e2 e3 c0 c1 c2 c3 c4 c5 c6 c7 d2 (by simpa using d3) (by simp at d3; omega)
theorem tries_walk (a0 a1 a2 : Int) (w0 : (Lit.int .i64 a0).wf = true) (w1 : (Lit.int .i64 a1).wf = true) (w2 : (Lit.int .i64 a2).wf = true) (w : World) :
    Calls Try.prog 5 #[.int .i64 a0, .int .i64 a1, .int .i64 a2] w fun e w' => e = .returned (.bool true) ∧ Grown w w' :=
  IsB.grown (tries a0 a1 a2 w (i64_bd _ w0) (i64_bd _ w1) (i64_bd _ w2))

theorem kv0 : Bk.delay 0 1 = 0 := by decide
theorem kv1 : Bk.delay 1 0 = 0 := by decide
theorem kv2 : Bk.delay 1 1 = 1 := by decide
theorem kv3 : Bk.delay 1000 7 = 64000 := by decide
theorem kv4 : Bk.delay 1000 8 = 64000 := by decide
theorem kv5 : Bk.delay 1099511627776 1 = 64000 := by decide
theorem kv6 : Bk.delay 1 1099511627776 = 64000 := by rw [Bk.delay_of _ _ (by omega) (by omega)]; exact Bk.dl_16 1 (by omega) _ (by omega)
theorem kv7 : Bk.delay (-5) 3 = 0 := by decide
theorem kv8 : Bk.total 1 0 = 0 := by decide
theorem kv9 : Bk.total 1 (-3) = 0 := by decide
theorem kv10 : Bk.total 64000 1099511627776 = 137438953408000 := by rw [Bk.total_of _ _ (by omega), Bk.sm_tail' 64000 (by omega) 0 _ (by rw [Bk.dl_zero]; omega) (by omega), Bk.sm_zero]; omega
theorem kv11 : Bk.tri 1 0 = 0 := Bk.tri_is 1 0 (by decide) (by decide) 0 (by decide) (by decide) (.inr (by decide))
theorem kv12 : Bk.tri 1 6 = 2 := Bk.tri_is 1 6 (by decide) (by decide) 2 (by decide) (by decide) (.inr (by decide))
theorem kv13 : Bk.tri 1 7 = 3 := Bk.tri_is 1 7 (by decide) (by decide) 3 (by decide) (by decide) (.inr (by decide))
theorem kv14 : Bk.tri 0 9 = 0 := Bk.tri_low _ _ (.inl (by decide))
theorem kv15 : Bk.tri 1 (-1) = 0 := Bk.tri_low _ _ (.inr (by decide))
theorem kv16 : Bk.tri 64000 4611686018427387904 = 2147483647 := Bk.tri_is 64000 _ (by omega) (by omega) 2147483647 (by omega) (by rw [Bk.sm_tail' 64000 (by omega) 0 _ (by rw [Bk.dl_zero]; omega) (by omega), Bk.sm_zero]; omega) (.inl rfl)
/-- BackKnown -/
theorem known (w : World) : Calls Try.prog 3 #[] w (IsB true w) := by
  have ca := Lib.hid (awake w)
  have c0 := Lib.hid (delay_any 0 1 w (by omega))
  rw [kv0] at c0
  have c1 := Lib.hid (delay_any 1 0 w (by omega))
  rw [kv1] at c1
  have c2 := Lib.hid (delay_any 1 1 w (by omega))
  rw [kv2] at c2
  have c3 := Lib.hid (delay_any 1000 7 w (by omega))
  rw [kv3] at c3
  have c4 := Lib.hid (delay_any 1000 8 w (by omega))
  rw [kv4] at c4
  have c5 := Lib.hid (delay_any 1099511627776 1 w (by omega))
  rw [kv5] at c5
  have c6 := Lib.hid (delay_any 1 1099511627776 w (by omega))
  rw [kv6] at c6
  have c7 := Lib.hid (delay_any (-5) 3 w (by omega))
  rw [kv7] at c7
  have c8 := Lib.hid (total_any 1 0 w (by omega) (by omega))
  rw [kv8] at c8
  have c9 := Lib.hid (total_any 1 (-3) w (by omega) (by omega))
  rw [kv9] at c9
  have c10 := Lib.hid (total_any 64000 1099511627776 w (by omega) (by omega))
  rw [kv10] at c10
  have c11 := Lib.hid (try_any 1 0 w (by omega) (by omega) (by omega))
  rw [kv11] at c11
  have c12 := Lib.hid (try_any 1 6 w (by omega) (by omega) (by omega))
  rw [kv12] at c12
  have c13 := Lib.hid (try_any 1 7 w (by omega) (by omega) (by omega))
  rw [kv13] at c13
  have c14 := Lib.hid (try_any 0 9 w (by omega) (by omega) (by omega))
  rw [kv14] at c14
  have c15 := Lib.hid (try_any 1 (-1) w (by omega) (by omega) (by omega))
  rw [kv15] at c15
  have c16 := Lib.hid (try_any 64000 4611686018427387904 w (by omega) (by omega) (by omega))
  rw [kv16] at c16
  go_enter Try.func3, Try.ntmps3
  go_wp2_with fail
  refine (ca.out).mono ?_; rintro e w' ⟨rfl, rfl⟩
  go_wp2_with fail
  refine (c0.out).mono ?_; rintro e w' ⟨rfl, rfl⟩
  go_wp2_with fail
  refine (c1.out).mono ?_; rintro e w' ⟨rfl, rfl⟩
  go_wp2_with fail
  refine (c2.out).mono ?_; rintro e w' ⟨rfl, rfl⟩
  go_wp2_with fail
  refine (c3.out).mono ?_; rintro e w' ⟨rfl, rfl⟩
  go_wp2_with fail
  refine (c4.out).mono ?_; rintro e w' ⟨rfl, rfl⟩
  go_wp2_with fail
  refine (c5.out).mono ?_; rintro e w' ⟨rfl, rfl⟩
  go_wp2_with fail
  refine (c6.out).mono ?_; rintro e w' ⟨rfl, rfl⟩
  go_wp2_with fail
  refine (c7.out).mono ?_; rintro e w' ⟨rfl, rfl⟩
  go_wp2_with fail
  refine (c8.out).mono ?_; rintro e w' ⟨rfl, rfl⟩
  go_wp2_with fail
  refine (c9.out).mono ?_; rintro e w' ⟨rfl, rfl⟩
  go_wp2_with fail
  refine (c10.out).mono ?_; rintro e w' ⟨rfl, rfl⟩
  go_wp2_with fail
  refine (c11.out).mono ?_; rintro e w' ⟨rfl, rfl⟩
  go_wp2_with fail
  refine (c12.out).mono ?_; rintro e w' ⟨rfl, rfl⟩
  go_wp2_with fail
  refine (c13.out).mono ?_; rintro e w' ⟨rfl, rfl⟩
  go_wp2_with fail
  refine (c14.out).mono ?_; rintro e w' ⟨rfl, rfl⟩
  go_wp2_with fail
  refine (c15.out).mono ?_; rintro e w' ⟨rfl, rfl⟩
  go_wp2_with fail
  refine (c16.out).mono ?_; rintro e w' ⟨rfl, rfl⟩
  go_wp2_with fail
  go_ret
  exact IsB.of rfl
theorem known_walk (w : World) : Calls Try.prog 3 #[] w fun e w' => e = .returned (.bool true) ∧ Grown w w' :=
  IsB.grown (known w)
end Go.Proofs.Ytphfncjglodgbaa.BkL
