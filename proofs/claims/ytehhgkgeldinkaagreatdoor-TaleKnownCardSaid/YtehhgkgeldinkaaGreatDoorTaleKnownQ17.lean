/- TaleKnown: one part of its run. Conditions: the parts within it. -/
import Derived.Test.YtehhgkgeldinkaaGreatDoorTaleKnownMs2
import Derived.KernelRfl
namespace Go.Proofs.YtehhgkgeldinkaaGreatDoor.TaleKnownRun
open Go Go.RowKit Am EkEnv
set_option linter.unusedVariables false
set_option maxRecDepth 100000
noncomputable def pm17 (g : Nat) : Option Prim := bif Nat.beq g 15 then some (memoP begin0 (fun _ _ => none) [memo2, memo3, memo4, memo5, memo6, memo7, memo8, memo9, memo10, memo11, memo12, memo13, memo14, memo15, memo16]) else prim0 g
theorem pm17OK (h2 : MemoOK Tryz.prog begin0 memo2) (h3 : MemoOK Tryz.prog begin0 memo3) (h4 : MemoOK Tryz.prog begin0 memo4) (h5 : MemoOK Tryz.prog begin0 memo5) (h6 : MemoOK Tryz.prog begin0 memo6) (h7 : MemoOK Tryz.prog begin0 memo7) (h8 : MemoOK Tryz.prog begin0 memo8) (h9 : MemoOK Tryz.prog begin0 memo9) (h10 : MemoOK Tryz.prog begin0 memo10) (h11 : MemoOK Tryz.prog begin0 memo11) (h12 : MemoOK Tryz.prog begin0 memo12) (h13 : MemoOK Tryz.prog begin0 memo13) (h14 : MemoOK Tryz.prog begin0 memo14) (h15 : MemoOK Tryz.prog begin0 memo15) (h16 : MemoOK Tryz.prog begin0 memo16) : PrimOK Tryz.prog pm17 := by
  intro fid p h args H v H' hp
  unfold pm17 at h
  cases hq : Nat.beq fid 15 with
  | true =>
    rw [hq] at h
    cases h
    obtain rfl := Nat.eq_of_beq_eq_true hq
    refine memoP_ok (fun _ _ _ _ h => by cases h) _ ?_ args H v H' hp
    intro m hm
    simp only [List.mem_cons, List.mem_nil_iff, or_false] at hm
    rcases hm with rfl | rfl | rfl | rfl | rfl | rfl | rfl | rfl | rfl | rfl | rfl | rfl | rfl | rfl | rfl
    · exact ⟨rfl, h2⟩
    · exact ⟨rfl, h3⟩
    · exact ⟨rfl, h4⟩
    · exact ⟨rfl, h5⟩
    · exact ⟨rfl, h6⟩
    · exact ⟨rfl, h7⟩
    · exact ⟨rfl, h8⟩
    · exact ⟨rfl, h9⟩
    · exact ⟨rfl, h10⟩
    · exact ⟨rfl, h11⟩
    · exact ⟨rfl, h12⟩
    · exact ⟨rfl, h13⟩
    · exact ⟨rfl, h14⟩
    · exact ⟨rfl, h15⟩
    · exact ⟨rfl, h16⟩
  | false =>
    rw [hq] at h
    exact prim0OK fid p h args H v H' hp
theorem run17 (el : Nat → TypeId) : endMemo begin0 memo17 (F.runF Tryz.prog ext pm17 60000 memo17.fid memo17.args (heapOf el begin0 memo17.inn memo17.next)) = (true, F.mapL (fun x => el x.1) begin0) := by kernel_rfl
theorem q17 (h2 : MemoOK Tryz.prog begin0 memo2) (h3 : MemoOK Tryz.prog begin0 memo3) (h4 : MemoOK Tryz.prog begin0 memo4) (h5 : MemoOK Tryz.prog begin0 memo5) (h6 : MemoOK Tryz.prog begin0 memo6) (h7 : MemoOK Tryz.prog begin0 memo7) (h8 : MemoOK Tryz.prog begin0 memo8) (h9 : MemoOK Tryz.prog begin0 memo9) (h10 : MemoOK Tryz.prog begin0 memo10) (h11 : MemoOK Tryz.prog begin0 memo11) (h12 : MemoOK Tryz.prog begin0 memo12) (h13 : MemoOK Tryz.prog begin0 memo13) (h14 : MemoOK Tryz.prog begin0 memo14) (h15 : MemoOK Tryz.prog begin0 memo15) (h16 : MemoOK Tryz.prog begin0 memo16) : MemoOK Tryz.prog begin0 memo17 := memo_run mixed namesOK extOK (pm17OK h2 h3 h4 h5 h6 h7 h8 h9 h10 h11 h12 h13 h14 h15 h16) (m := memo17) Tryz.func6 rfl run17
end Go.Proofs.YtehhgkgeldinkaaGreatDoor.TaleKnownRun
