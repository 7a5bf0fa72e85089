/- internal/strconv.ParseInt at base 16: a sign ahead; the empty string. -/
import Derived.Test.YtdacjomfipkpaaaDoorSegParseb
set_option linter.unusedVariables false
set_option linter.unusedSimpArgs false
namespace Go.Proofs.YtdacjomfipkpaaaDoor.SgW
open Go.RowKit Hp Sg

set_option maxRecDepth 100000 in
theorem pInt_empty (w : World) :
    Calls Tryd.prog 45 #[.string ⟨#[]⟩, .int .i64 16, .int .i64 64] w
      fun e w' => e = .returned (.tuple #[.int .i64 0, ev 2]) ∧ Only (fun _ => False) w w' := by
  go_enter Tryd.func45, Tryd.ntmps45
  go_wp2
  go_ret2
  exact ⟨by kernel_rfl, Only.refl _ _⟩

theorem pu_code (l : List UInt8) : (pu l).2 = 0 ∨ pu l = (2 ^ 64 - 1, 1) ∨ pu l = (0, 2) := by
  unfold pu
  split
  · exact .inr (.inr rfl)
  · exact pug_code _ _

set_option maxRecDepth 100000 in
set_option maxHeartbeats 1600000 in
theorem pIntSign (s : ByteArray) (hs : s.size ≤ 281474976710656) (h1 : 0 < s.size) (hx : ((s[0]'h1).toNat : Int) = 43 ∨ ((s[0]'h1).toNat : Int) = 45) (w : World) :
    Calls Tryd.prog 45 #[.string s, .int .i64 16, .int .i64 64] w
      fun e w' => ∃ v c, c ≤ 2 ∧ e = .returned (.tuple #[.int .i64 v, ev c]) ∧ Only (fun _ => False) w w' := by
  have hsz : (s.extract 1 s.size).size ≤ 281474976710656 := by simp; omega
  have hc := pUint (s.extract 1 s.size) hsz w
  have hcd := pu_code (s.extract 1 s.size).data.toList
  have h0 : s.toList.isEmpty = false := by
    have h2 : ¬ s.toList = (ByteArray.mk #[]).toList := fun h => by
      rw [(str_tl_iff _ _).1 h] at h1
      exact absurd h1 (by decide)
    rw [emp_tl] at h2
    simpa using h2
  have g1 : (1 : Int) ≤ (s.size : Int) := by omega
  have hq1 := err_neq 1 1
  have hq2 := err_neq 2 1
  generalize pu (s.extract 1 s.size).data.toList = u at hc hcd
  obtain ⟨u, c⟩ := u
  simp only at hc hcd
  generalize ((u : Nat) : Int) = a at hc
  have hcc : c = 0 ∨ c = 1 ∨ c = 2 := by
    rcases hcd with h | h | h
    · exact .inl h
    · exact .inr (.inl (Prod.mk.inj h).2)
    · exact .inr (.inr (Prod.mk.inj h).2)
  clear hcd
  rcases hcc with rfl | rfl | rfl
  all_goals
    rcases hx with hx | hx
    all_goals
      go_enter Tryd.func45, Tryd.ntmps45
      go_wp2_with fail
      refine hc.mono ?_
      rintro e w' ⟨rfl, ho⟩
      have Ho := Lib.hid ho
      clear ho
      try simp only [ev, if_pos]
      try (rw [show ev 1 = .iface 115 (.int .i64 1) from rfl])
      try (rw [show ev 2 = .iface 115 (.int .i64 2) from rfl])
      go_wp2
      all_goals
        go_ret2
        first
        | exact ⟨_, 0, by omega, rfl, Ho.out⟩
        | exact ⟨_, 1, by omega, rfl, Ho.out⟩
        | exact ⟨_, 2, by omega, rfl, Ho.out⟩
end Go.Proofs.YtdacjomfipkpaaaDoor.SgW
