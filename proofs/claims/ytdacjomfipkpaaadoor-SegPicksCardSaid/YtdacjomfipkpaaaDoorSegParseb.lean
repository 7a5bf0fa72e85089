/- internal/strconv.ParseInt at base 16. -/
import Derived.Test.YtdacjomfipkpaaaDoorSegParse
import Derived.Lib.IfaceEq
set_option linter.unusedVariables false
set_option linter.unusedSimpArgs false
namespace Go.Proofs.YtdacjomfipkpaaaDoor.SgW
open Go.RowKit Hp Sg

theorem err_neq (a b : Int) (w : World) : (binOp .neq 61 (.iface 115 (.int .i64 a)) (.iface 115 (.int .i64 b))).run Tryd.prog w = .ok (.bool (!(a == b))) w := by
  have hco : (Tryd.prog.info? 115).map (·.comparable) = some true := by kernel_rfl
  cases hi : Tryd.prog.info? 115 with
  | none => simp [hi] at hco
  | some i =>
    have hcc : i.comparable = true := by simpa [hi] using hco
    have h : ∀ d : Nat, (Op.equalIn (d + 2) 61 (.iface 115 (.int .i64 a)) (.iface 115 (.int .i64 b))).run Tryd.prog w = .ok (a == b) w := fun d => by
      simp [Op.equalIn, run_underlying Tryd.underlying61, run_underlying Tryd.underlying115, typeInfo, hi, hcc]
    simp only [binOp]
    simp [Op.equal, Op.maxDepth, h 9998]

/-- what ParseInt does with the number and the code of ParseUint -/
def pin (neg : Bool) (u : Nat × Nat) : Int × Nat :=
  if u.2 = 2 then (0, 2)
  else if neg = false ∧ 9223372036854775808 ≤ u.1 then (9223372036854775807, 1)
  else if neg = true ∧ 9223372036854775808 < u.1 then (-9223372036854775808, 1)
  else (if neg then -(u.1 : Int) else u.1, 0)

set_option maxRecDepth 100000 in
set_option maxHeartbeats 1600000 in
theorem pInt0 (s : ByteArray) (hs : s.size ≤ 281474976710656) (h1 : 0 < s.size) (hp : ((s[0]'h1).toNat : Int) ≠ 43) (hm : ((s[0]'h1).toNat : Int) ≠ 45) (w : World) :
    Calls Tryd.prog 45 #[.string s, .int .i64 16, .int .i64 64] w
      fun e w' => e = .returned (.tuple #[.int .i64 (pin false (pu s.data.toList)).1, ev (pin false (pu s.data.toList)).2]) ∧ Only (fun _ => False) w w' := by
  have hc := pUint s hs w
  have hcd : (pu s.data.toList).2 = 0 ∨ pu s.data.toList = (2 ^ 64 - 1, 1) ∨ pu s.data.toList = (0, 2) := by
    unfold pu
    split
    · exact .inr (.inr rfl)
    · exact pug_code _ _
  have hlt : (pu s.data.toList).1 < 2 ^ 64 := by
    unfold pu
    split
    · decide
    · exact pug_lt _ _ (by decide)
  have h0 : s.toList.isEmpty = false := by
    have h2 : ¬ s.toList = (ByteArray.mk #[]).toList := fun h => by
      rw [(str_tl_iff _ _).1 h] at h1
      exact absurd h1 (by decide)
    rw [emp_tl] at h2
    simpa using h2
  generalize pu s.data.toList = u at hc hcd hlt
  obtain ⟨u, c⟩ := u
  simp only at hc hcd hlt
  have hM : IntKind.i64.wrap (9223372036854775808 - 1) = 9223372036854775807 := by kernel_rfl
  rcases hcd with rfl | h | h
  · obtain ⟨a, ha⟩ : ∃ a : Int, a = (u : Int) := ⟨_, rfl⟩
    have Ha := Lib.hid ha
    by_cases hr : 9223372036854775808 ≤ u
    · have hr' : (9223372036854775808 : Int) ≤ a := by omega
      have hres : pin false (u, 0) = (9223372036854775807, 1) := by unfold pin; rw [if_neg (by simp), if_pos ⟨rfl, hr⟩]
      rw [hres]
      rw [← ha] at hc
      clear hres ha hr hlt
      go_enter Tryd.func45, Tryd.ntmps45
      go_wp2_with fail
      refine hc.mono ?_
      rintro e w' ⟨rfl, ho⟩
      have Ho := Lib.hid ho
      clear ho
      simp only [ev, if_pos]
      go_wp2
      go_ret2
      exact ⟨by kernel_rfl, Ho.out⟩
    · have hr' : a < (9223372036854775808 : Int) := by omega
      have ha0 : 0 ≤ a := by omega
      have hres : pin false (u, 0) = (a, 0) := by unfold pin; rw [if_neg (by simp), if_neg (fun h => hr h.2), if_neg (fun h => by cases h.1)]; simp [ha]
      have hw : IntKind.i64.wrap a = a := IntWalk.i64_in _ (by omega)
      rw [hres]
      rw [← ha] at hc
      clear hres ha hr hlt
      go_enter Tryd.func45, Tryd.ntmps45
      go_wp2_with fail
      refine hc.mono ?_
      rintro e w' ⟨rfl, ho⟩
      have Ho := Lib.hid ho
      clear ho
      simp only [ev, if_pos]
      go_wp2
      go_ret2
      exact ⟨rfl, Ho.out⟩
  · obtain ⟨rfl, rfl⟩ := Prod.mk.inj h
    have hc' : Calls Tryd.prog 67 #[.string s, .int .i64 16, .int .i64 64] w fun e w' => e = .returned (.tuple #[.int .u64 18446744073709551615, .iface 115 (.int .i64 1)]) ∧ Only (fun _ => False) w w' := hc
    clear hc hlt h
    have hq1 := err_neq 1 1
    have hq2 := err_neq 2 1
    go_enter Tryd.func45, Tryd.ntmps45
    go_wp2_with fail
    refine hc'.mono ?_
    rintro e w' ⟨rfl, ho⟩
    have Ho := Lib.hid ho
    clear ho
    go_wp2
    go_ret2
    exact ⟨by kernel_rfl, Ho.out⟩
  · obtain ⟨rfl, rfl⟩ := Prod.mk.inj h
    have hc' : Calls Tryd.prog 67 #[.string s, .int .i64 16, .int .i64 64] w fun e w' => e = .returned (.tuple #[.int .u64 0, .iface 115 (.int .i64 2)]) ∧ Only (fun _ => False) w w' := hc
    clear hc hlt h
    have hq1 := err_neq 1 1
    have hq2 := err_neq 2 1
    go_enter Tryd.func45, Tryd.ntmps45
    go_wp2_with fail
    refine hc'.mono ?_
    rintro e w' ⟨rfl, ho⟩
    have Ho := Lib.hid ho
    clear ho
    go_wp2
    go_ret2
    exact ⟨by kernel_rfl, Ho.out⟩
end Go.Proofs.YtdacjomfipkpaaaDoor.SgW
