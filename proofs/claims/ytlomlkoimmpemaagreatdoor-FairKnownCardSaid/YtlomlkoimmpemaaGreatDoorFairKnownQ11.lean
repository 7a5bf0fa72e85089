/- FairKnown: one part of its run. Conditions: the parts ahead. -/
import Derived.Test.YtlomlkoimmpemaaGreatDoorFairKnownMs2
import Derived.KernelRfl
namespace Go.Proofs.YtlomlkoimmpemaaGreatDoor.FairKnownRun
open Go Go.RowKit Am EkEnv
set_option linter.unusedVariables false
set_option maxRecDepth 100000
/-- the three rounds' memos alone, with no run behind them -/
noncomputable def pmx (g : Nat) : Option Prim := bif Nat.beq g 71 then some (memoP begin0 (fun _ _ => none) [memo5, memo6, memo7]) else prim0 g
theorem pmxOK (h5 : MemoOK Tryz.prog begin0 memo5) (h6 : MemoOK Tryz.prog begin0 memo6) (h7 : MemoOK Tryz.prog begin0 memo7) : PrimOK Tryz.prog pmx := by
  intro fid p h args H v H' hp
  unfold pmx at h
  cases hq : Nat.beq fid 71 with
  | true =>
    rw [hq] at h
    cases h
    obtain rfl := Nat.eq_of_beq_eq_true hq
    refine memoP_ok (fun args H v H' hn => by cases hn) _ ?_ args H v H' hp
    intro m hm
    simp only [List.mem_cons, List.mem_nil_iff, or_false] at hm
    rcases hm with rfl | rfl | rfl
    · exact ⟨rfl, h5⟩
    · exact ⟨rfl, h6⟩
    · exact ⟨rfl, h7⟩
  | false =>
    rw [hq] at h
    clear hq
    exact prim0OK fid p h args H v H' hp
theorem run11' (el : Nat → TypeId) : endMemo begin0 memo11 (F.runF Tryz.prog ext pmx 60000 memo11.fid memo11.args (heapOf el begin0 memo11.inn memo11.next)) = (true, [el 0, el 2, el 3, el 6, el 7]) := by kernel_rfl
theorem run11 (el : Nat → TypeId) : endMemo begin0 memo11 (F.runF Tryz.prog ext pmx 60000 memo11.fid memo11.args (heapOf el begin0 memo11.inn memo11.next)) = (true, F.mapL (fun x => el x.1) begin0) := run11' el
theorem q11 (h1 : MemoOK Tryz.prog begin0 memo1) (h2 : MemoOK Tryz.prog begin0 memo2) (h3 : MemoOK Tryz.prog begin0 memo3) (h4 : MemoOK Tryz.prog begin0 memo4) (h5 : MemoOK Tryz.prog begin0 memo5) (h6 : MemoOK Tryz.prog begin0 memo6) (h7 : MemoOK Tryz.prog begin0 memo7) (h8 : MemoOK Tryz.prog begin0 memo8) (h9 : MemoOK Tryz.prog begin0 memo9) (h10 : MemoOK Tryz.prog begin0 memo10) : MemoOK Tryz.prog begin0 memo11 := memo_run mixed namesOK extOK (pmxOK h5 h6 h7) (m := memo11) Tryz.func31 rfl run11
end Go.Proofs.YtlomlkoimmpemaaGreatDoor.FairKnownRun
