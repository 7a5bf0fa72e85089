/- The walks of package back's Delay, Total and Try: each returns what the plain functions of BackPlain give. -/
import Derived.Test.YtphfncjglodgbaaRows
import Derived.Test.YtphfncjglodgbaaBackPlain
import Derived.WalkKit
import Derived.WalkLawsBesides
import Derived.Lib.Hide
set_option linter.unusedVariables false
namespace Go.Proofs.Ytphfncjglodgbaa.BkW
open Go.RowKit

theorem ret_int {k : IntKind} {a b : Int} (h : a = b) : Ending.returned (.int k a) = .returned (.int k b) := by rw [h]
def IsInt (v : Int) (w : World) (e : Ending) (w' : World) : Prop := e = .returned (.int .i64 v) ∧ w = w'
theorem IsInt.of {v x : Int} {w : World} (h : x = v) : IsInt v w (.returned (.int .i64 x)) w := ⟨by rw [h], rfl⟩

theorem delay_yes (b t : Int) (w : World) (hb : 1 ≤ b) (ht : 1 ≤ t) (ht2 : t ≤ 9223372036854775807) :
    Calls Try.prog 9 #[.int .i64 b, .int .i64 t] w (IsInt (Bk.delay b t) w) := by
  have hd := Lib.hid (Bk.delay_of b t hb ht)
  go_enter Try.func9, Try.ntmps9
  go_wp2
  all_goals
    go_loop [5, 6] (fun d k => ∃ (n : Nat) (x : Int), Hid (x = Bk.dl b n) ∧ (n : Int) + 1 ≤ t ∧ 1 ≤ x ∧ x ≤ 64000 ∧ d = .int .i64 x ∧ k = .int .i64 ((n : Int) + 1)) (fun _ k => (t - intOf k).toNat)
    case atStart => exact ⟨0, _, Lib.hid (by rw [Bk.dl_zero]; omega), by omega, by omega, by omega, rfl, rfl⟩
    case round =>
      obtain ⟨n, x, hx, hn, h1, h2, rfl, rfl⟩ := hrel
      by_cases c1 : (n : Int) + 1 < t
      · by_cases c2 : x < 64000
        · go_wp2
          all_goals
            go_round
            case rel => exact ⟨n + 1, _, Lib.hid (by rw [Bk.dl_succ, ← hx.out]; first | rw [if_pos (by omega)] | rw [if_neg (by omega)] | skip; omega), by omega, by omega, by omega, rfl, by go_num⟩
            case measure => simp [intOf]; omega
        · go_wp2
          go_ret
          exact IsInt.of (by rw [hd.out, Bk.dl_stuck' b hb n _ (by rw [← hx.out]; omega) (by omega)]; omega)
      · go_wp2
        go_ret
        exact IsInt.of (by rw [hd.out, hx.out]; congr 1; omega)

theorem delay_any (b t : Int) (w : World) (ht2 : t ≤ 9223372036854775807) :
    Calls Try.prog 9 #[.int .i64 b, .int .i64 t] w (IsInt (Bk.delay b t) w) := by
  by_cases hb : b < 1
  · have hd := Lib.hid (Bk.delay_low b t (.inl hb))
    go_enter Try.func9, Try.ntmps9
    go_wp2
    go_ret
    exact IsInt.of hd.out.symm
  · by_cases ht : t < 1
    · have hd := Lib.hid (Bk.delay_low b t (.inr ht))
      go_enter Try.func9, Try.ntmps9
      go_wp2
      go_ret
      exact IsInt.of hd.out.symm
    · exact delay_yes b t w (by omega) (by omega) ht2

/-- the reference's Delay -/
theorem rdelay_yes (b t : Int) (w : World) (hb : 1 ≤ b) (hb2 : b ≤ 9223372036854775807) (ht : 1 ≤ t) (ht2 : t ≤ 9223372036854775807) :
    Calls Try.prog 12 #[.int .i64 b, .int .i64 t] w (IsInt (Bk.delay b t) w) := by
  have hd := Lib.hid (Bk.delay_of b t hb ht)
  go_enter Try.func12, Try.ntmps12
  go_wp2
  go_loop [5, 6] (fun d k => ∃ (n : Nat) (x : Int), Hid (min x 64000 = Bk.dl b n) ∧ (n : Int) + 1 ≤ t ∧ 1 ≤ x ∧ x ≤ 9223372036854775807 ∧ d = .int .i64 x ∧ k = .int .i64 ((n : Int) + 1)) (fun _ k => (t - intOf k).toNat)
  case atStart => exact ⟨0, _, Lib.hid (by rw [Bk.dl_zero]), by omega, by omega, by omega, rfl, rfl⟩
  case round =>
    obtain ⟨n, x, hx, hn, h1, h2, rfl, rfl⟩ := hrel
    by_cases c1 : (n : Int) + 1 < t
    · by_cases c2 : x < 64000
      · go_wp2
        go_round
        case rel => exact ⟨n + 1, x * 2, Lib.hid (by rw [Bk.dl_succ, ← hx.out]; omega), by omega, by omega, by omega, rfl, by go_num⟩
        case measure => simp [intOf]; omega
      · by_cases c3 : 64000 < x
        · go_wp2
          go_ret
          exact IsInt.of (by rw [hd.out, Bk.dl_stuck' b hb n _ (by rw [← hx.out]; omega) (by omega)])
        · go_wp2
          go_ret
          exact IsInt.of (by rw [hd.out, Bk.dl_stuck' b hb n _ (by rw [← hx.out]; omega) (by omega)]; omega)
    · by_cases c3 : 64000 < x
      · go_wp2
        go_ret
        exact IsInt.of (by rw [hd.out, show (t - 1).toNat = n by omega, ← hx.out]; omega)
      · go_wp2
        go_ret
        exact IsInt.of (by rw [hd.out, show (t - 1).toNat = n by omega, ← hx.out]; omega)

theorem rdelay_any (b t : Int) (w : World) (hb2 : b ≤ 9223372036854775807) (ht2 : t ≤ 9223372036854775807) :
    Calls Try.prog 12 #[.int .i64 b, .int .i64 t] w (IsInt (Bk.delay b t) w) := by
  by_cases hb : b < 1
  · have hd := Lib.hid (Bk.delay_low b t (.inl hb))
    go_enter Try.func12, Try.ntmps12
    go_wp2
    go_ret
    exact IsInt.of hd.out.symm
  · by_cases ht : t < 1
    · have hd := Lib.hid (Bk.delay_low b t (.inr ht))
      go_enter Try.func12, Try.ntmps12
      go_wp2
      go_ret
      exact IsInt.of hd.out.symm
    · exact rdelay_yes b t w (by omega) hb2 (by omega) ht2

theorem total_yes (b t : Int) (w : World) (hb : 1 ≤ b) (ht0 : -9223372036854775808 ≤ t) (ht2 : t ≤ 9223372036854775807) :
    Calls Try.prog 10 #[.int .i64 b, .int .i64 t] w (IsInt (Bk.total b t) w) := by
  have hd := Lib.hid (Bk.total_of b t hb)
  by_cases ht1 : 2147483647 < t
  · go_enter Try.func10, Try.ntmps10
    go_wp2
    obtain ⟨T, hT, hT2, hT1⟩ : ∃ T : Int, Hid (T = min t 2147483647) ∧ T ≤ 2147483647 ∧ 2147483647 ≤ T := ⟨2147483647, Lib.hid (by omega), by omega, by omega⟩
    obtain hTe := Lib.hid (show (2147483647 : Int) = T by omega)
    rw [hTe.out]
    clear hT1 ht1
    go_loop [5, 6] (fun s k => ∃ (n : Nat) (x : Int), Hid (x = Bk.sm b n) ∧ (n : Int) ≤ max T 0 ∧ 0 ≤ x ∧ x ≤ 64000 * n ∧ s = .int .i64 x ∧ k = .int .i64 ((n : Int) + 1)) (fun _ k => (T + 2 - intOf k).toNat)
    case atStart => exact ⟨0, _, Lib.hid (by rw [Bk.sm_zero]), by omega, by omega, by omega, rfl, rfl⟩
    case round =>
      obtain ⟨n, x, hx, hn, h1, h2, rfl, rfl⟩ := hrel
      have hdb := Bk.dl_bd b hb n
      have hdn := Lib.hid (Bk.delay_nat b hb n)
      obtain ⟨d, hd2⟩ : ∃ d, Hid (d = Bk.dl b n) := ⟨_, Lib.hid rfl⟩
      rw [← hd2.out] at hdb
      by_cases c1 : (n : Int) + 1 ≤ T
      · have C : Calls Try.prog 9 #[.int .i64 b, .int .i64 ((n : Int) + 1)] w (IsInt d w) := by
          rw [hd2.out, ← hdn.out]; exact delay_any _ _ _ (by omega)
        have C' := Lib.hid C
        clear C
        by_cases c2 : d = 64000
        · subst c2
          go_wp2_with (go_at_call 9; refine (C'.out).mono ?_; rintro e w' ⟨rfl, rfl⟩)
          go_ret
          exact IsInt.of (by rw [hd.out, ← hT.out, Bk.sm_tail' b hb n _ hd2.out.symm (by omega), hx.out]; omega)
        · have k1 : (d == 64000) = false := by simpa using c2
          have k2 : (d == 0) = false := by simp; omega
          go_wp2_with (go_at_call 9; refine (C'.out).mono ?_; rintro e w' ⟨rfl, rfl⟩)
          go_round
          case rel => exact ⟨n + 1, _, Lib.hid (by rw [Bk.sm_succ, ← hx.out, ← hd2.out]), by omega, by omega, by omega, rfl, by go_num⟩
          case measure => simp [intOf]; omega
      · go_wp2
        go_ret
        exact IsInt.of (by rw [hd.out, hx.out, ← hT.out]; congr 1; omega)
  · obtain ⟨T, hT, hT2⟩ : ∃ T : Int, Hid (T = min t 2147483647) ∧ T ≤ 2147483647 := ⟨t, Lib.hid (by omega), by omega⟩
    obtain rfl : T = t := by have := hT.out; omega
    go_enter Try.func10, Try.ntmps10
    go_wp2
    go_loop [5, 6] (fun s k => ∃ (n : Nat) (x : Int), Hid (x = Bk.sm b n) ∧ (n : Int) ≤ max T 0 ∧ 0 ≤ x ∧ x ≤ 64000 * n ∧ s = .int .i64 x ∧ k = .int .i64 ((n : Int) + 1)) (fun _ k => (T + 2 - intOf k).toNat)
    case atStart => exact ⟨0, _, Lib.hid (by rw [Bk.sm_zero]), by omega, by omega, by omega, rfl, rfl⟩
    case round =>
      obtain ⟨n, x, hx, hn, h1, h2, rfl, rfl⟩ := hrel
      have hdb := Bk.dl_bd b hb n
      have hdn := Lib.hid (Bk.delay_nat b hb n)
      obtain ⟨d, hd2⟩ : ∃ d, Hid (d = Bk.dl b n) := ⟨_, Lib.hid rfl⟩
      rw [← hd2.out] at hdb
      by_cases c1 : (n : Int) + 1 ≤ T
      · have C : Calls Try.prog 9 #[.int .i64 b, .int .i64 ((n : Int) + 1)] w (IsInt d w) := by
          rw [hd2.out, ← hdn.out]; exact delay_any _ _ _ (by omega)
        have C' := Lib.hid C
        clear C
        by_cases c2 : d = 64000
        · subst c2
          go_wp2_with (go_at_call 9; refine (C'.out).mono ?_; rintro e w' ⟨rfl, rfl⟩)
          go_ret
          exact IsInt.of (by rw [hd.out, ← hT.out, Bk.sm_tail' b hb n _ hd2.out.symm (by omega), hx.out]; omega)
        · have k1 : (d == 64000) = false := by simpa using c2
          have k2 : (d == 0) = false := by simp; omega
          go_wp2_with (go_at_call 9; refine (C'.out).mono ?_; rintro e w' ⟨rfl, rfl⟩)
          go_round
          case rel => exact ⟨n + 1, _, Lib.hid (by rw [Bk.sm_succ, ← hx.out, ← hd2.out]), by omega, by omega, by omega, rfl, by go_num⟩
          case measure => simp [intOf]; omega
      · go_wp2
        go_ret
        exact IsInt.of (by rw [hd.out, hx.out, ← hT.out]; congr 1; omega)

theorem total_any (b t : Int) (w : World) (ht0 : -9223372036854775808 ≤ t) (ht2 : t ≤ 9223372036854775807) :
    Calls Try.prog 10 #[.int .i64 b, .int .i64 t] w (IsInt (Bk.total b t) w) := by
  by_cases hb : b < 1
  · have hd := Lib.hid (Bk.total_low b t hb)
    have C := Lib.hid (delay_any b 1 w (by omega))
    rw [Bk.delay_low b 1 (.inl hb)] at C
    by_cases h1 : t < 1
    · go_enter Try.func10, Try.ntmps10
      go_wp2
      refine wp_loop_rounds 1 ?_
      rw [rounds_succ]
      go_wp2
      go_ret
      exact IsInt.of hd.out.symm
    · by_cases ht1 : 2147483647 < t
      all_goals
        go_enter Try.func10, Try.ntmps10
        go_wp2
        refine wp_loop_rounds 1 ?_
        rw [rounds_succ]
        go_wp2_with (go_at_call 9; refine (C.out).mono ?_; rintro e w' ⟨rfl, rfl⟩)
        go_ret
        exact IsInt.of hd.out.symm
  · exact total_yes b t w (by omega) ht0 ht2

theorem try_end (b v x : Int) (n : Nat) (hb : 1 ≤ b) (hv : 0 ≤ v) (hd : Bk.dl b n = 64000) (hx : x = v - Bk.sm b n) (h0 : 0 ≤ x) (hn : n ≤ 17) :
    min ((n : Int) + x / 64000) 2147483647 = Bk.tri b v := by
  have e : ((min ((n : Int) + x / 64000) 2147483647).toNat : Int) = min ((n : Int) + x / 64000) 2147483647 := by omega
  rw [← e]
  refine (Bk.tri_is b v hb hv _ (by omega) ?_ ?_).symm
  · rw [Bk.sm_tail' b hb n _ hd (by omega)]; omega
  · by_cases c : (min ((n : Int) + x / 64000) 2147483647).toNat = 2147483647
    · exact .inl c
    · refine .inr ?_
      rw [Bk.sm_tail' b hb n _ hd (by omega)]; omega

theorem try_yes (b v : Int) (w : World) (hb : 1 ≤ b) (hv : 0 ≤ v) (hv2 : v ≤ 9223372036854775807) :
    Calls Try.prog 11 #[.int .i64 b, .int .i64 v] w (IsInt (Bk.tri b v) w) := by
  have ht := Lib.hid (Bk.tri_is b v hb hv)
  have hend := Lib.hid (try_end b v)
  go_enter Try.func11, Try.ntmps11
  go_wp2
  go_loop [1, 5] (fun y k => ∃ (n : Nat) (x : Int), Hid (x = v - Bk.sm b n) ∧ n ≤ 16 ∧ x ≤ v ∧ 0 ≤ x ∧ y = .int .i64 x ∧ k = .int .i64 ((n : Int) + 1)) (fun _ k => (20 - intOf k).toNat)
  case atStart => exact ⟨0, _, Lib.hid (by rw [Bk.sm_zero]; omega), by omega, by omega, by omega, rfl, rfl⟩
  case round =>
    obtain ⟨n, x, hx, hn, h1, h2, rfl, rfl⟩ := hrel
    have hdb := Bk.dl_bd b hb n
    have hdn := Lib.hid (Bk.delay_nat b hb n)
    have h16 : Hid (n = 16 → Bk.dl b n = 64000) := Lib.hid (fun e => Bk.dl_16 b hb n (by omega))
    obtain ⟨d, hd2⟩ : ∃ d, Hid (d = Bk.dl b n) := ⟨_, Lib.hid rfl⟩
    rw [← hd2.out] at hdb
    have C : Calls Try.prog 9 #[.int .i64 b, .int .i64 ((n : Int) + 1)] w (IsInt d w) := by
      rw [hd2.out, ← hdn.out]; exact delay_any _ _ _ (by omega)
    have C' := Lib.hid C
    clear C
    by_cases c2 : d = 64000
    · subst c2
      have hfin := Lib.hid (hend.out x n hb hv hd2.out.symm hx.out h2 (by omega))
      go_wp2_with (go_at_call 9; refine (C'.out).mono ?_; rintro e w' ⟨rfl, rfl⟩)
      all_goals
        go_ret
        exact IsInt.of (by rw [← hfin.out]; omega)
    · have k1 : (d == 64000) = false := by simpa using c2
      by_cases c3 : x < d
      · go_wp2_with (go_at_call 9; refine (C'.out).mono ?_; rintro e w' ⟨rfl, rfl⟩)
        go_ret
        exact IsInt.of (by rw [ht.out n (by omega) (by have := hx.out; omega) (.inr (by rw [Bk.sm_succ]; have := hx.out; have := hd2.out; omega))])
      · go_wp2_with (go_at_call 9; refine (C'.out).mono ?_; rintro e w' ⟨rfl, rfl⟩)
        go_round
        case rel => exact ⟨n + 1, _, Lib.hid (by rw [Bk.sm_succ, ← hd2.out, hx.out]; omega), by have : n ≠ 16 := (fun e => c2 (by rw [hd2.out, h16.out e])); omega, by omega, by omega, rfl, by go_num⟩
        case measure => simp [intOf]; omega

theorem try_any (b v : Int) (w : World) (hb2 : b ≤ 9223372036854775807) (hv1 : -9223372036854775808 ≤ v) (hv2 : v ≤ 9223372036854775807) :
    Calls Try.prog 11 #[.int .i64 b, .int .i64 v] w (IsInt (Bk.tri b v) w) := by
  by_cases hb : b < 1
  · have hd := Lib.hid (Bk.tri_low b v (.inl hb))
    go_enter Try.func11, Try.ntmps11
    go_wp2
    go_ret
    exact IsInt.of hd.out.symm
  · by_cases hv : v < 0
    · have hd := Lib.hid (Bk.tri_low b v (.inr hv))
      have hdb := Bk.delay_bd b 1
      have hdp := Bk.delay_pos b 1 (by omega) (by omega)
      obtain ⟨d, hd2⟩ : ∃ d, Hid (d = Bk.delay b 1) := ⟨_, Lib.hid rfl⟩
      rw [← hd2.out] at hdb hdp
      have C : Calls Try.prog 9 #[.int .i64 b, .int .i64 1] w (IsInt d w) := by
        rw [hd2.out]; exact delay_any _ _ _ (by omega)
      have C' := Lib.hid C
      clear C
      by_cases c2 : d = 64000
      · subst c2
        go_enter Try.func11, Try.ntmps11
        go_wp2
        refine wp_loop_rounds 1 ?_
        rw [rounds_succ]
        go_wp2_with (go_at_call 9; refine (C'.out).mono ?_; rintro e w' ⟨rfl, rfl⟩)
        all_goals
          go_ret
          exact IsInt.of (by rw [hd.out])
      · have k1 : (d == 64000) = false := by simpa using c2
        go_enter Try.func11, Try.ntmps11
        go_wp2
        refine wp_loop_rounds 1 ?_
        rw [rounds_succ]
        go_wp2_with (go_at_call 9; refine (C'.out).mono ?_; rintro e w' ⟨rfl, rfl⟩)
        go_ret
        exact IsInt.of (by rw [hd.out])
    · exact try_yes b v w (by omega) (by omega) hv2

/-! the reference's Total and Try -/
theorem rtotal_yes (b t : Int) (w : World) (hb : 1 ≤ b) (hb2 : b ≤ 9223372036854775807) (ht0 : -9223372036854775808 ≤ t) (ht2 : t ≤ 9223372036854775807) :
    Calls Try.prog 13 #[.int .i64 b, .int .i64 t] w (IsInt (Bk.total b t) w) := by
  have hd := Lib.hid (Bk.total_of b t hb)
  by_cases ht1 : 2147483647 < t
  · go_enter Try.func13, Try.ntmps13
    go_wp2
    obtain ⟨T, hT, hT2, hT1⟩ : ∃ T : Int, Hid (T = min t 2147483647) ∧ T ≤ 2147483647 ∧ 2147483647 ≤ T := ⟨2147483647, Lib.hid (by omega), by omega, by omega⟩
    obtain hTe := Lib.hid (show (2147483647 : Int) = T by omega)
    rw [hTe.out]
    clear hT1 ht1
    go_loop [5, 6] (fun s k => ∃ (n : Nat) (x : Int), Hid (x = Bk.sm b n) ∧ (n : Int) ≤ max T 0 ∧ 0 ≤ x ∧ x ≤ 64000 * n ∧ s = .int .i64 x ∧ k = .int .i64 ((n : Int) + 1)) (fun _ k => (T + 2 - intOf k).toNat)
    case atStart => exact ⟨0, _, Lib.hid (by rw [Bk.sm_zero]), by omega, by omega, by omega, rfl, rfl⟩
    case round =>
      obtain ⟨n, x, hx, hn, h1, h2, rfl, rfl⟩ := hrel
      have hdb := Bk.dl_bd b hb n
      have hdn := Lib.hid (Bk.delay_nat b hb n)
      obtain ⟨d, hd2⟩ : ∃ d, Hid (d = Bk.dl b n) := ⟨_, Lib.hid rfl⟩
      rw [← hd2.out] at hdb
      by_cases c1 : (n : Int) + 1 ≤ T
      · have C : Calls Try.prog 12 #[.int .i64 b, .int .i64 ((n : Int) + 1)] w (IsInt d w) := by
          rw [hd2.out, ← hdn.out]; exact rdelay_any _ _ _ (by omega) (by omega)
        have C' := Lib.hid C
        clear C
        by_cases c2 : d < 64000
        · go_wp2_with (go_at_call 12; refine (C'.out).mono ?_; rintro e w' ⟨rfl, rfl⟩)
          go_round
          case rel => exact ⟨n + 1, _, Lib.hid (by rw [Bk.sm_succ, ← hx.out, ← hd2.out]), by omega, by omega, by omega, rfl, by go_num⟩
          case measure => simp [intOf]; omega
        · obtain rfl : d = 64000 := by omega
          go_wp2_with (go_at_call 12; refine (C'.out).mono ?_; rintro e w' ⟨rfl, rfl⟩)
          go_ret
          exact IsInt.of (by rw [hd.out, ← hT.out, Bk.sm_tail' b hb n _ hd2.out.symm (by omega), hx.out]; omega)
      · go_wp2
        go_ret
        exact IsInt.of (by rw [hd.out, hx.out, ← hT.out]; congr 1; omega)
  · obtain ⟨T, hT, hT2⟩ : ∃ T : Int, Hid (T = min t 2147483647) ∧ T ≤ 2147483647 := ⟨t, Lib.hid (by omega), by omega⟩
    obtain rfl : T = t := by have := hT.out; omega
    go_enter Try.func13, Try.ntmps13
    go_wp2
    go_loop [5, 6] (fun s k => ∃ (n : Nat) (x : Int), Hid (x = Bk.sm b n) ∧ (n : Int) ≤ max T 0 ∧ 0 ≤ x ∧ x ≤ 64000 * n ∧ s = .int .i64 x ∧ k = .int .i64 ((n : Int) + 1)) (fun _ k => (T + 2 - intOf k).toNat)
    case atStart => exact ⟨0, _, Lib.hid (by rw [Bk.sm_zero]), by omega, by omega, by omega, rfl, rfl⟩
    case round =>
      obtain ⟨n, x, hx, hn, h1, h2, rfl, rfl⟩ := hrel
      have hdb := Bk.dl_bd b hb n
      have hdn := Lib.hid (Bk.delay_nat b hb n)
      obtain ⟨d, hd2⟩ : ∃ d, Hid (d = Bk.dl b n) := ⟨_, Lib.hid rfl⟩
      rw [← hd2.out] at hdb
      by_cases c1 : (n : Int) + 1 ≤ T
      · have C : Calls Try.prog 12 #[.int .i64 b, .int .i64 ((n : Int) + 1)] w (IsInt d w) := by
          rw [hd2.out, ← hdn.out]; exact rdelay_any _ _ _ (by omega) (by omega)
        have C' := Lib.hid C
        clear C
        by_cases c2 : d < 64000
        · go_wp2_with (go_at_call 12; refine (C'.out).mono ?_; rintro e w' ⟨rfl, rfl⟩)
          go_round
          case rel => exact ⟨n + 1, _, Lib.hid (by rw [Bk.sm_succ, ← hx.out, ← hd2.out]), by omega, by omega, by omega, rfl, by go_num⟩
          case measure => simp [intOf]; omega
        · obtain rfl : d = 64000 := by omega
          go_wp2_with (go_at_call 12; refine (C'.out).mono ?_; rintro e w' ⟨rfl, rfl⟩)
          go_ret
          exact IsInt.of (by rw [hd.out, ← hT.out, Bk.sm_tail' b hb n _ hd2.out.symm (by omega), hx.out]; omega)
      · go_wp2
        go_ret
        exact IsInt.of (by rw [hd.out, hx.out, ← hT.out]; congr 1; omega)

theorem rtotal_any (b t : Int) (w : World) (hb2 : b ≤ 9223372036854775807) (ht0 : -9223372036854775808 ≤ t) (ht2 : t ≤ 9223372036854775807) :
    Calls Try.prog 13 #[.int .i64 b, .int .i64 t] w (IsInt (Bk.total b t) w) := by
  by_cases hb : b < 1
  · have hd := Lib.hid (Bk.total_low b t hb)
    go_enter Try.func13, Try.ntmps13
    go_wp2
    go_ret
    exact IsInt.of hd.out.symm
  · exact rtotal_yes b t w (by omega) hb2 ht0 ht2

theorem rtry_any (b v : Int) (w : World) (hb2 : b ≤ 9223372036854775807) (hv1 : -9223372036854775808 ≤ v) (hv2 : v ≤ 9223372036854775807) :
    Calls Try.prog 14 #[.int .i64 b, .int .i64 v] w (IsInt (Bk.tri b v) w) := by
  by_cases hb : b < 1
  · have hd := Lib.hid (Bk.tri_low b v (.inl hb))
    go_enter Try.func14, Try.ntmps14
    go_wp2
    go_ret
    exact IsInt.of hd.out.symm
  · by_cases hv : v < 0
    · have hd := Lib.hid (Bk.tri_low b v (.inr hv))
      go_enter Try.func14, Try.ntmps14
      go_wp2
      go_ret
      exact IsInt.of hd.out.symm
    · have ht := Lib.hid (Bk.tri_is b v (by omega) (by omega))
      go_enter Try.func14, Try.ntmps14
      go_wp2
      obtain ⟨M, hM, hM2, hM1⟩ : ∃ M : Int, Hid (M = 2147483647) ∧ M ≤ 2147483647 ∧ 2147483647 ≤ M := ⟨2147483647, Lib.hid (by omega), by omega, by omega⟩
      obtain hMe := Lib.hid (show (2147483647 : Int) = M by omega)
      rw [hMe.out]
      go_loop [5, 6] (fun lo hi => ∃ l h : Int, 0 ≤ l ∧ l ≤ h ∧ h ≤ M ∧ Hid (Bk.sm b l.toNat ≤ v) ∧ Hid (h = 2147483647 ∨ v < Bk.sm b (h.toNat + 1)) ∧ lo = .int .i64 l ∧ hi = .int .i64 h) (fun lo hi => (intOf hi - intOf lo).toNat)
      case atStart => exact ⟨0, M, by omega, by omega, by omega, Lib.hid (by rw [show (0 : Int).toNat = 0 by rfl, Bk.sm_zero]; omega), Lib.hid (.inl hM.out), rfl, rfl⟩
      case round =>
        obtain ⟨l, h, h1, h2, h3, hf, hp, rfl, rfl⟩ := hrel
        by_cases c1 : l < h
        · obtain ⟨m, hm, m1, m2⟩ : ∃ m : Int, Hid (m = l + (h - l + 1) / 2) ∧ l < m ∧ m ≤ h := ⟨_, Lib.hid rfl, by omega, by omega⟩
          have hS := Lib.hid (Bk.total_nat b (by omega) m.toNat (by omega))
          have hSe := Lib.hid (show ((m.toNat : Nat) : Int) = m by omega)
          obtain ⟨S, hS2⟩ : ∃ S, Hid (S = Bk.total b m) := ⟨_, Lib.hid rfl⟩
          have C : Calls Try.prog 13 #[.int .i64 b, .int .i64 (l + (h - l + 1) / 2)] w (IsInt S w) := by
            rw [hS2.out, ← hm.out]; exact rtotal_any _ _ _ (by omega) (by omega) (by omega)
          have C' := Lib.hid C
          clear C
          by_cases c2 : S ≤ v
          · go_wp2_with (go_at_call 13; refine (C'.out).mono ?_; rintro e w' ⟨rfl, rfl⟩)
            go_round
            case rel => exact ⟨_, _, by omega, by omega, by omega, Lib.hid (by rw [← hm.out, ← hS.out, hSe.out, ← hS2.out]; exact c2), hp, rfl, rfl⟩
            case measure => simp [intOf]; omega
          · go_wp2_with (go_at_call 13; refine (C'.out).mono ?_; rintro e w' ⟨rfl, rfl⟩)
            go_round
            case rel => exact ⟨_, _, by omega, by omega, by omega, hf, Lib.hid (.inr (by rw [← hm.out, show (m - 1).toNat + 1 = m.toNat by omega, ← hS.out, hSe.out, ← hS2.out]; omega)), rfl, rfl⟩
            case measure => simp [intOf]; omega
        · obtain rfl : l = h := by omega
          go_wp2
          go_ret
          exact IsInt.of (by rw [ht.out l.toNat (by omega) hf.out (by have := hp.out; omega)]; omega)
end Go.Proofs.Ytphfncjglodgbaa.BkW
