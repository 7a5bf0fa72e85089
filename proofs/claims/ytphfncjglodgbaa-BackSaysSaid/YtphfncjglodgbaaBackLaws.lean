/- The walks of the five laws of layer 13: each returns true. -/
import Derived.Test.YtphfncjglodgbaaBackWalks
import Derived.RowKit3
set_option linter.unusedVariables false
namespace Go.Proofs.Ytphfncjglodgbaa.BkL
open Go.RowKit BkW

def IsB (v : Bool) (w : World) (e : Ending) (w' : World) : Prop := e = .returned (.bool v) ∧ w = w'
theorem IsB.of {v x : Bool} {w : World} (h : x = v) : IsB v w (.returned (.bool x)) w := ⟨by rw [h], rfl⟩
theorem IsB.grown {w : World} {f : Nat} {args : Array Value} (h : Calls Try.prog f args w (IsB true w)) : Calls Try.prog f args w fun e w' => e = .returned (.bool true) ∧ Grown w w' :=
  h.mono fun e w' ⟨h1, h2⟩ => ⟨h1, by subst h2; exact Grown.refl _⟩

theorem d34 : Bk.delay 3 4 = 24 := by decide
theorem t34 : Bk.total 3 4 = 45 := by decide
theorem y345 : Bk.tri 3 45 = 4 := Bk.tri_is 3 45 (by decide) (by decide) 4 (by decide) (by decide) (.inr (by decide))

theorem awake (w : World) : Calls Try.prog 8 #[] w (IsB true w) := by
  have c1 := Lib.hid (delay_any 3 4 w (by omega))
  have c2 := Lib.hid (total_any 3 4 w (by omega) (by omega))
  have c3 := Lib.hid (try_any 3 45 w (by omega) (by omega) (by omega))
  rw [d34] at c1
  rw [t34] at c2
  rw [y345] at c3
  go_enter Try.func8, Try.ntmps8
  go_wp2_with (first | (go_at_call 9; refine (c1.out).mono ?_; rintro e w' ⟨rfl, rfl⟩) | (go_at_call 10; refine (c2.out).mono ?_; rintro e w' ⟨rfl, rfl⟩) | (go_at_call 11; refine (c3.out).mono ?_; rintro e w' ⟨rfl, rfl⟩))
  go_ret
  exact IsB.of rfl

theorem i64_bd (a : Int) (h : (Lit.int .i64 a).wf = true) : -9223372036854775808 ≤ a ∧ a ≤ 9223372036854775807 := by
  simpa [Lit.wf, IntKind.min, IntKind.max, IntKind.signed, IntKind.bits] using h

/-- BackSays -/
theorem says (b t v : Int) (w : World) (hb : -9223372036854775808 ≤ b ∧ b ≤ 9223372036854775807) (ht : -9223372036854775808 ≤ t ∧ t ≤ 9223372036854775807) (hv : -9223372036854775808 ≤ v ∧ v ≤ 9223372036854775807) :
    Calls Try.prog 4 #[.int .i64 b, .int .i64 t, .int .i64 v] w (IsB true w) := by
  obtain ⟨x, hx⟩ : ∃ x, Hid (x = Bk.delay b t) := ⟨_, Lib.hid rfl⟩
  obtain ⟨y, hy⟩ : ∃ y, Hid (y = Bk.total b t) := ⟨_, Lib.hid rfl⟩
  obtain ⟨z, hz⟩ : ∃ z, Hid (z = Bk.tri b v) := ⟨_, Lib.hid rfl⟩
  have c0 := Lib.hid (awake w)
  have c1 := Lib.hid (delay_any b t w ht.2)
  have c2 := Lib.hid (total_any b t w ht.1 ht.2)
  have c3 := Lib.hid (try_any b v w hb.2 hv.1 hv.2)
  have c4 := Lib.hid (rdelay_any b t w hb.2 ht.2)
  have c5 := Lib.hid (rtotal_any b t w hb.2 ht.1 ht.2)
  have c6 := Lib.hid (rtry_any b v w hb.2 hv.1 hv.2)
  rw [← hx.out] at c1 c4
  rw [← hy.out] at c2 c5
  rw [← hz.out] at c3 c6
  go_enter Try.func4, Try.ntmps4
  go_wp2_with (first | (go_at_call 8; refine (c0.out).mono ?_; rintro e w' ⟨rfl, rfl⟩) | (go_at_call 9; refine (c1.out).mono ?_; rintro e w' ⟨rfl, rfl⟩) | (go_at_call 10; refine (c2.out).mono ?_; rintro e w' ⟨rfl, rfl⟩) | (go_at_call 11; refine (c3.out).mono ?_; rintro e w' ⟨rfl, rfl⟩) | (go_at_call 12; refine (c4.out).mono ?_; rintro e w' ⟨rfl, rfl⟩) | (go_at_call 13; refine (c5.out).mono ?_; rintro e w' ⟨rfl, rfl⟩) | (go_at_call 14; refine (c6.out).mono ?_; rintro e w' ⟨rfl, rfl⟩))
  go_ret
  exact IsB.of rfl
theorem says_walk (a0 a1 a2 : Int) (w0 : (Lit.int .i64 a0).wf = true) (w1 : (Lit.int .i64 a1).wf = true) (w2 : (Lit.int .i64 a2).wf = true) (w : World) :
    Calls Try.prog 4 #[.int .i64 a0, .int .i64 a1, .int .i64 a2] w fun e w' => e = .returned (.bool true) ∧ Grown w w' :=
  IsB.grown (says a0 a1 a2 w (i64_bd _ w0) (i64_bd _ w1) (i64_bd _ w2))
end Go.Proofs.Ytphfncjglodgbaa.BkL
