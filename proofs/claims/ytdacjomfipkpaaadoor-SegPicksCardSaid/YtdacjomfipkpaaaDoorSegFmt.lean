/- strconv.FormatInt at base 16, strings.Repeat of a nought: walked. -/
import Derived.Test.YtdacjomfipkpaaaDoorRows
import Derived.Test.YtdacjomfipkpaaaDoorHpb
import Derived.Test.YtdacjomfipkpaaaDoorSegPlain
import Derived.Deep.QuietTactic
import Derived.BigQuiet
import Derived.StillTailTactics
import Derived.Deep.RegionHeld3
import Derived.Deep.RegionLaw
import Derived.Deep.AppendLies
import Derived.Outline
import Derived.KernelRfl
set_option linter.unusedVariables false
set_option linter.unusedSimpArgs false
namespace Go.Proofs.YtdacjomfipkpaaaDoor.SgW
open Go.RowKit Hp Sg

set_option maxRecDepth 100000 in
theorem tz (w : World) (h : w.cell? ⟨5, 15, none⟩ = some (.int .u8 4)) :
    Calls Tryd.prog 87 #[.int .u64 16] w fun e w' => e = .returned (.int .i64 4) ∧ w' = w := by
  have h0 : IntKind.u64.wrap (bits BinOp.and IntKind.u64 16 (IntKind.u64.wrap (-16)) * 285870213051353865) / 288230376151711744 = 15 := by kernel_rfl
  go_enter Tryd.func87, Tryd.ntmps87
  go_wp2
  go_ret
  exact ⟨rfl, rfl⟩

theorem pw2 (w : World) :
    Calls Tryd.prog 86 #[.int .i64 16] w fun e w' => e = .returned (.bool true) ∧ w' = w := by
  go_enter Tryd.func86, Tryd.ntmps86
  go_wp2
  go_ret
  exact ⟨by kernel_rfl, rfl⟩

theorem mul1 (k : Nat) (h1 : 2 ≤ k) (h2 : k < 12) (w : World) :
    Calls Tryd.prog 39 #[.int .u64 1, .int .u64 k] w fun e w' => e = .returned (.tuple #[.int .u64 0, .int .u64 k]) ∧ w' = w := by
  obtain rfl | rfl | rfl | rfl | rfl | rfl | rfl | rfl | rfl | rfl : k = 2 ∨ k = 3 ∨ k = 4 ∨ k = 5 ∨ k = 6 ∨ k = 7 ∨ k = 8 ∨ k = 9 ∨ k = 10 ∨ k = 11 := by omega
  all_goals
    go_enter Tryd.func39, Tryd.ntmps39
    go_wp2
    go_ret2
    exact ⟨by kernel_rfl, rfl⟩

theorem hp0 (s : ByteArray) (b : Bool) (h1 : 1 ≤ s.size) (h : ((s.extract 0 1).toList == [48]) = b) (w : World) :
    Calls Tryd.prog 40 #[.string s, .string ⟨#[48]⟩] w fun e w' => e = .returned (.bool b) ∧ w' = w := by
  have g1 : (1 : Int) ≤ (s.size : Int) := by omega
  go_enter Tryd.func40, Tryd.ntmps40
  go_wp2
  go_ret
  exact ⟨by simp [h], rfl⟩

set_option maxRecDepth 100000 in
theorem rep (k : Nat) (h1 : 1 ≤ k) (h2 : k < 12) (w : World) :
    Calls Tryd.prog 24 #[.string ⟨#[48]⟩, .int .i64 k] w fun e w' => e = .returned (.string ⟨(List.replicate k 48).toArray⟩) ∧ w' = w := by
  by_cases hk : k = 1
  · subst hk
    go_enter Tryd.func24, Tryd.ntmps24
    go_wp2
    go_ret
    exact ⟨rfl, rfl⟩
  · have t0 : ((k : Int) == 0) = false := by simp; omega
    have t1 : ((k : Int) == 1) = false := by simp; omega
    have t2 : ¬ ((k : Int) < 0) := by omega
    have t3 : ¬ (9223372036854775807 < (k : Int)) := by omega
    have t4 : (k : Int) ≤ 128 := by omega
    have t5 : (k : Int) ≤ 64 := by omega
    have t6 : IntKind.u64.wrap (k : Int) = k := IntWalk.u64_in _ (by omega)
    have t7 : IntKind.i64.wrap (k : Int) = k := IntWalk.i64_in _ (by omega)
    go_enter Tryd.func24, Tryd.ntmps24
    go_wp2_with fail
    refine (mul1 k (by omega) h2 _).mono ?_
    rintro e w' ⟨rfl, rfl⟩
    go_wp2_with fail
    refine (hp0 _ false (by decide) (by kernel_rfl) _).mono ?_
    rintro e w' ⟨rfl, rfl⟩
    go_wp2_with fail
    refine (hp0 _ false (by decide) (by kernel_rfl) _).mono ?_
    rintro e w' ⟨rfl, rfl⟩
    go_wp2_with fail
    refine (hp0 _ true (by decide) (by kernel_rfl) _).mono ?_
    rintro e w' ⟨rfl, rfl⟩
    go_wp2_with fail
    go_ret
    refine ⟨?_, rfl⟩
    obtain rfl | rfl | rfl | rfl | rfl | rfl | rfl | rfl | rfl | rfl : k = 2 ∨ k = 3 ∨ k = 4 ∨ k = 5 ∨ k = 6 ∨ k = 7 ∨ k = 8 ∨ k = 9 ∨ k = 10 ∨ k = 11 := by omega
    all_goals kernel_rfl
end Go.Proofs.YtdacjomfipkpaaaDoor.SgW
