/- TaleKnown: one part of its run. Conditions: the parts within it. -/
import Derived.Test.YtehhgkgeldinkaaGreatDoorTaleKnownMs2
import Derived.KernelRfl
namespace Go.Proofs.YtehhgkgeldinkaaGreatDoor.TaleKnownRun
open Go Go.RowKit Am EkEnv
set_option linter.unusedVariables false
set_option maxRecDepth 100000
noncomputable def pm42 (g : Nat) : Option Prim := bif Nat.beq g 15 then some (memoP begin0 (fun _ _ => none) [memo18, memo19, memo20, memo21, memo22, memo23, memo24, memo25, memo26, memo27, memo28, memo29, memo30, memo31, memo32, memo33, memo34, memo35, memo36, memo37, memo38, memo39, memo40, memo41]) else prim0 g
theorem pm42OK (h18 : MemoOK Tryz.prog begin0 memo18) (h19 : MemoOK Tryz.prog begin0 memo19) (h20 : MemoOK Tryz.prog begin0 memo20) (h21 : MemoOK Tryz.prog begin0 memo21) (h22 : MemoOK Tryz.prog begin0 memo22) (h23 : MemoOK Tryz.prog begin0 memo23) (h24 : MemoOK Tryz.prog begin0 memo24) (h25 : MemoOK Tryz.prog begin0 memo25) (h26 : MemoOK Tryz.prog begin0 memo26) (h27 : MemoOK Tryz.prog begin0 memo27) (h28 : MemoOK Tryz.prog begin0 memo28) (h29 : MemoOK Tryz.prog begin0 memo29) (h30 : MemoOK Tryz.prog begin0 memo30) (h31 : MemoOK Tryz.prog begin0 memo31) (h32 : MemoOK Tryz.prog begin0 memo32) (h33 : MemoOK Tryz.prog begin0 memo33) (h34 : MemoOK Tryz.prog begin0 memo34) (h35 : MemoOK Tryz.prog begin0 memo35) (h36 : MemoOK Tryz.prog begin0 memo36) (h37 : MemoOK Tryz.prog begin0 memo37) (h38 : MemoOK Tryz.prog begin0 memo38) (h39 : MemoOK Tryz.prog begin0 memo39) (h40 : MemoOK Tryz.prog begin0 memo40) (h41 : MemoOK Tryz.prog begin0 memo41) : PrimOK Tryz.prog pm42 := by
  intro fid p h args H v H' hp
  unfold pm42 at h
  cases hq : Nat.beq fid 15 with
  | true =>
    rw [hq] at h
    cases h
    obtain rfl := Nat.eq_of_beq_eq_true hq
    refine memoP_ok (fun _ _ _ _ h => by cases h) _ ?_ args H v H' hp
    intro m hm
    simp only [List.mem_cons, List.mem_nil_iff, or_false] at hm
    rcases hm with rfl | rfl | rfl | rfl | rfl | rfl | rfl | rfl | rfl | rfl | rfl | rfl | rfl | rfl | rfl | rfl | rfl | rfl | rfl | rfl | rfl | rfl | rfl | rfl
    · exact ⟨rfl, h18⟩
    · exact ⟨rfl, h19⟩
    · exact ⟨rfl, h20⟩
    · exact ⟨rfl, h21⟩
    · exact ⟨rfl, h22⟩
    · exact ⟨rfl, h23⟩
    · exact ⟨rfl, h24⟩
    · exact ⟨rfl, h25⟩
    · exact ⟨rfl, h26⟩
    · exact ⟨rfl, h27⟩
    · exact ⟨rfl, h28⟩
    · exact ⟨rfl, h29⟩
    · exact ⟨rfl, h30⟩
    · exact ⟨rfl, h31⟩
    · exact ⟨rfl, h32⟩
    · exact ⟨rfl, h33⟩
    · exact ⟨rfl, h34⟩
    · exact ⟨rfl, h35⟩
    · exact ⟨rfl, h36⟩
    · exact ⟨rfl, h37⟩
    · exact ⟨rfl, h38⟩
    · exact ⟨rfl, h39⟩
    · exact ⟨rfl, h40⟩
    · exact ⟨rfl, h41⟩
  | false =>
    rw [hq] at h
    exact prim0OK fid p h args H v H' hp
theorem run42 (el : Nat → TypeId) : endMemo begin0 memo42 (F.runF Tryz.prog ext pm42 60000 memo42.fid memo42.args (heapOf el begin0 memo42.inn memo42.next)) = (true, F.mapL (fun x => el x.1) begin0) := by kernel_rfl
theorem q42 (h18 : MemoOK Tryz.prog begin0 memo18) (h19 : MemoOK Tryz.prog begin0 memo19) (h20 : MemoOK Tryz.prog begin0 memo20) (h21 : MemoOK Tryz.prog begin0 memo21) (h22 : MemoOK Tryz.prog begin0 memo22) (h23 : MemoOK Tryz.prog begin0 memo23) (h24 : MemoOK Tryz.prog begin0 memo24) (h25 : MemoOK Tryz.prog begin0 memo25) (h26 : MemoOK Tryz.prog begin0 memo26) (h27 : MemoOK Tryz.prog begin0 memo27) (h28 : MemoOK Tryz.prog begin0 memo28) (h29 : MemoOK Tryz.prog begin0 memo29) (h30 : MemoOK Tryz.prog begin0 memo30) (h31 : MemoOK Tryz.prog begin0 memo31) (h32 : MemoOK Tryz.prog begin0 memo32) (h33 : MemoOK Tryz.prog begin0 memo33) (h34 : MemoOK Tryz.prog begin0 memo34) (h35 : MemoOK Tryz.prog begin0 memo35) (h36 : MemoOK Tryz.prog begin0 memo36) (h37 : MemoOK Tryz.prog begin0 memo37) (h38 : MemoOK Tryz.prog begin0 memo38) (h39 : MemoOK Tryz.prog begin0 memo39) (h40 : MemoOK Tryz.prog begin0 memo40) (h41 : MemoOK Tryz.prog begin0 memo41) : MemoOK Tryz.prog begin0 memo42 := memo_run mixed namesOK extOK (pm42OK h18 h19 h20 h21 h22 h23 h24 h25 h26 h27 h28 h29 h30 h31 h32 h33 h34 h35 h36 h37 h38 h39 h40 h41) (m := memo42) Tryz.func6 rfl run42
end Go.Proofs.YtehhgkgeldinkaaGreatDoor.TaleKnownRun
