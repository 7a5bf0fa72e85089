/- FlowFrom: the law returns true for every input, and each argument reads afterwards as it read before. Conditions: the listed package-level variables hold what the program's text lays there (tied by the card). -/
import Derived.Test.YtkhhnpkmblldbaaGreatDoorFlowFromFacts
import Derived.Test.YtkhhnpkmblldbaaGreatDoorCards
import Derived.Test.YtkhhnpkmblldbaaGreatDoorTie
import Derived.WalkKit
import Derived.ProofKit
import Derived.OpenShut
import Derived.Lay
import Derived.SevenTiedAt
import Derived.Test.YtkhhnpkmblldbaaGreatDoorFlT
namespace Go.Proofs.YtkhhnpkmblldbaaGreatDoor.flowFrom
open Go.ChangeShapes Go.WideShapes Go.ChangeAt Go.RowKit Am
set_option linter.unusedVariables false
set_option linter.unusedSimpArgs false
theorem own : ownKnob Tryz.prog.godebug = none := by kernel_rfl
theorem laidOut : laidOutB Tryz.prog = true := by kernel_rfl
theorem plainLaid : (Rows.flowFromRow.laid.all fun x => x.2.handleName?.isNone) = true := by kernel_rfl
set_option maxRecDepth 100000 in
theorem lifted (os : Os) (started : os.Started) (H : Type) (enc : TypeId × Value → H) :
    ReturnsInHanded {} Tryz.checked os 8 .any (fun w args => (Rows.flowFromSpec.pre enc Tryz.prog Tryz.f8 [] false w args ∧ laidMetH Tryz.prog Rows.flowFromRow.laid w) ∧ sizedMet enc Tryz.prog Tryz.f8 (OpenSpec.ofChange Rows.flowFromSpec) false w args)
      (Rows.flowFromSpec.post enc Tryz.prog Tryz.f8 false true false false) := by
  refine Hand.handed (g := 7) (by kernel_rfl) (by kernel_rfl) (C := Tryz.checked) (X := fun w _ => laidMetH Tryz.prog Rows.flowFromRow.laid w) (fun _ _ _ hh h => h.of_heap hh) own started (by kernel_rfl) Tryz.func8
    (ChangeSpec.witness_shaped (enc := enc) (C := Tryz.checked) (os := os) (X := fun w _ => laidMetH Tryz.prog Rows.flowFromRow.laid w) false (World.laidAll Tryz.prog os Rows.flowFromRow.laid) #[.agg #[.int .i64 0, .slice none 0 0, .slice none 0 0, .slice none 0 0, .slice none 0 0, .slice none 0 0]] 8 (World.laidAll_os _ _ _)
      (World.shaped_of_ZipB (by kernel_rfl) (by kernel_rfl)) (by kernel_rfl) (by kernel_rfl) (by kernel_rfl)
      (by rw [MakeChecks.laidMetH_plain _ _ _ plainLaid]; exact laidMet_laidAll _ (by kernel_rfl) (by kernel_rfl))) ?_
  intro W base args ds gs before hsize hval0 hW _ hwt hL _
  have hval : ∀ (j : Nat) t v, Tryz.f8.params[j]? = some t → args[j]? = some v → Value.okWide Tryz.prog W .any base t v := hval0
  have hW' := hW
  obtain ⟨p, q, hA0, hV, rfl, _, _⟩ := hW
  have hA : DataW.TrodAll enc Tryz.prog W 0 (fun _ => true) true Tryz.f8.params.toList args.toList ds p := hA0
  rw [Tryz.params8] at hA hval
  obtain ⟨v0, vs0, d0, ds0, p0, q0, hargs, rfl, rfl, h0, r0⟩ := trodAll_cons hA
  obtain ⟨rfl, rfl, rfl⟩ := trodAll_nil r0
  obtain rfl : args = #[v0] := by cases args; simp_all
  obtain ⟨rfl, rfl⟩ := trodVars_none hV
  rw [MakeChecks.laidMetH_plain _ _ _ plainLaid] at hL
  have k0 := h0
  have lt0 : ∀ x ∈ p0, x.block < W.heap.size := by obtain ⟨m, hm⟩ := k0; exact DataW.trod_lt m _ _ _ hm
  have ok0 := hval 0 56 v0 rfl rfl
  clear hA0 hval0
  have a0 : K.ArgOf enc Tryz.prog W 0 (fun _ => true) true (.struct 6 [(0, 1, (.int .i64)), (1, 1, (.slice 1 .str)), (2, 1, (.slice 1 .str)), (3, 1, (.slice 4 (.struct 4 [(0, 1, (.struct 1 [(0, 1, (.slice 6 (.struct 6 [(0, 1, .str), (1, 1, (.slice 1 (.int .i64))), (2, 1, (.int .i64)), (3, 1, (.int .i64)), (4, 1, (.int .i64)), (5, 1, .str)])))])), (1, 1, (.int .i64)), (2, 1, (.slice 4 (.struct 4 [(0, 1, (.int .i64)), (1, 1, (.int .i64)), (2, 1, (.int .i64)), (3, 1, .str)]))), (3, 1, (.slice 1 .str))]))), (4, 1, (.slice 1 .str)), (5, 1, (.slice 3 (.struct 3 [(0, 2, (.struct 2 [(0, 1, .str), (1, 1, .str)])), (2, 1, (.int .i64))])))]) 56 v0 := by
    obtain ⟨f, hf⟩ := h0
    exact ⟨(.struct Tryz.underlying56 (by kernel_rfl) rfl ⟨rfl, rfl, rfl, rfl, rfl, rfl, rfl⟩ (K.fs_cons ⟨rfl, by kernel_rfl⟩ (K.fs_cons ⟨rfl, by kernel_rfl⟩ (K.fs_cons ⟨rfl, by kernel_rfl⟩ (K.fs_cons ⟨rfl, by kernel_rfl⟩ (K.fs_cons ⟨rfl, by kernel_rfl⟩ (K.fs_cons ⟨rfl, by kernel_rfl⟩ K.fs_nil)))))) (K.fs_cons (.int Tryz.underlying2) (K.fs_cons (.slice Tryz.underlying52 (by kernel_rfl) (by decide) (.str Tryz.underlying9)) (K.fs_cons (.slice Tryz.underlying52 (by kernel_rfl) (by decide) (.str Tryz.underlying9)) (K.fs_cons (.slice Tryz.underlying53 (by kernel_rfl) (by decide) (.struct Tryz.underlying62 (by kernel_rfl) rfl ⟨rfl, rfl, rfl, rfl, rfl⟩ (K.fs_cons ⟨rfl, by kernel_rfl⟩ (K.fs_cons ⟨rfl, by kernel_rfl⟩ (K.fs_cons ⟨rfl, by kernel_rfl⟩ (K.fs_cons ⟨rfl, by kernel_rfl⟩ K.fs_nil)))) (K.fs_cons (.struct Tryz.underlying59 (by kernel_rfl) rfl ⟨rfl, rfl⟩ (K.fs_cons ⟨rfl, by kernel_rfl⟩ K.fs_nil) (K.fs_cons (.slice Tryz.underlying57 (by kernel_rfl) (by decide) (.struct Tryz.underlying107 (by kernel_rfl) rfl ⟨rfl, rfl, rfl, rfl, rfl, rfl, rfl⟩ (K.fs_cons ⟨rfl, by kernel_rfl⟩ (K.fs_cons ⟨rfl, by kernel_rfl⟩ (K.fs_cons ⟨rfl, by kernel_rfl⟩ (K.fs_cons ⟨rfl, by kernel_rfl⟩ (K.fs_cons ⟨rfl, by kernel_rfl⟩ (K.fs_cons ⟨rfl, by kernel_rfl⟩ K.fs_nil)))))) (K.fs_cons (.str Tryz.underlying9) (K.fs_cons (.slice Tryz.underlying105 (by kernel_rfl) (by decide) (.int Tryz.underlying3)) (K.fs_cons (.int Tryz.underlying3) (K.fs_cons (.int Tryz.underlying3) (K.fs_cons (.int Tryz.underlying3) (K.fs_cons (.str Tryz.underlying9) K.fs_nil)))))))) K.fs_nil)) (K.fs_cons (.int Tryz.underlying3) (K.fs_cons (.slice Tryz.underlying60 (by kernel_rfl) (by decide) (.struct Tryz.underlying126 (by kernel_rfl) rfl ⟨rfl, rfl, rfl, rfl, rfl⟩ (K.fs_cons ⟨rfl, by kernel_rfl⟩ (K.fs_cons ⟨rfl, by kernel_rfl⟩ (K.fs_cons ⟨rfl, by kernel_rfl⟩ (K.fs_cons ⟨rfl, by kernel_rfl⟩ K.fs_nil)))) (K.fs_cons (.int Tryz.underlying3) (K.fs_cons (.int Tryz.underlying3) (K.fs_cons (.int Tryz.underlying2) (K.fs_cons (.str Tryz.underlying9) K.fs_nil)))))) (K.fs_cons (.slice Tryz.underlying52 (by kernel_rfl) (by decide) (.str Tryz.underlying9)) K.fs_nil)))))) (K.fs_cons (.slice Tryz.underlying52 (by kernel_rfl) (by decide) (.str Tryz.underlying9)) (K.fs_cons (.slice Tryz.underlying54 (by kernel_rfl) (by decide) (.struct Tryz.underlying71 (by kernel_rfl) rfl ⟨rfl, rfl, rfl⟩ (K.fs_cons ⟨rfl, by kernel_rfl⟩ (K.fs_cons ⟨rfl, by kernel_rfl⟩ K.fs_nil)) (K.fs_cons (.struct Tryz.underlying69 (by kernel_rfl) rfl ⟨rfl, rfl, rfl⟩ (K.fs_cons ⟨rfl, by kernel_rfl⟩ (K.fs_cons ⟨rfl, by kernel_rfl⟩ K.fs_nil)) (K.fs_cons (.str Tryz.underlying9) (K.fs_cons (.str Tryz.underlying9) K.fs_nil))) (K.fs_cons (.int Tryz.underlying3) K.fs_nil)))) K.fs_nil))))))), ⟨f, _, hf, fun k hk => of_decide_eq_true (List.all_eq_true.1 hwt k (K.w_each (j := 0) (by kernel_rfl) rfl hk))⟩, (fun _ => by obtain ⟨cs, rfl, _⟩ := okWide_struct Tryz.underlying56 ok0; exact ⟨cs, rfl⟩), (fun h => by cases h)⟩
  refine (DfEnv.lawRun Tryz.func8 rfl DfK.an DfK.anOK hL hsize (fun _ => rfl) (.cons a0 .nil) fun H as' ds h hT hn => DfK.from_top h hT hn).mono fun e W' ⟨he, bel⟩ => ?_
  subst he
  exact ⟨_, rfl, _, _, _, [], _, [], hW', trodAll_mk1 (shut_bool Tryz.underlying4 _), (trodAll_cons_mk (Below.trod laidOut (by kernel_rfl) (of_decide_eq_true (by kernel_rfl)) k0 bel lt0) trodAll_mk0), rfl, bel.frame _, fun h => by cases h⟩
theorem over : Rows.flowFromRow.holds Tryz.pinned (OpenSpec.ofChange Rows.flowFromSpec) :=
  OpenClaim.holds_of_wide 8 Tryz.f8 rfl rfl rfl rfl rfl rfl rfl ⟨rfl, rfl, rfl, rfl, rfl⟩ rfl rfl rfl rfl rfl (by kernel_rfl) Tryz.func8 FlowFromFacts.closed
    (of_decide_eq_true (by kernel_rfl)) (by unfold Func.isWrapper; first | (rw [if_pos (by decide +kernel)]; kernel_rfl) | (rw [if_neg (by decide +kernel)]; exact ⟨rfl, rfl⟩))
    (fun os started H enc _ => lifted os started H enc)
theorem stands : ∀ (j : Nat) t, Tryz.f8.params[j]? = some t → Tryz.prog.wantsStandIn t = false := by
  intro j t ht
  rw [Tryz.params8] at ht
  cases j with
  | zero => cases ht; kernel_rfl
  | succ j =>
    simp at ht
theorem proved : Rows.FlowFromCardSaid :=
  Claim7.holds_tied_plain_at .later [] [.data, .data, .data, .data, .sentinel, .sentinel, .pinned] true (true, "d2513614e99c67e799ac1721a24578e22613c483e4169fe3e9e793effdab6f21") true over (fun _ h => by cases h) (by kernel_rfl) (fun _ h => by cases h) flowFrom_row_tie rfl ⟨rfl, rfl⟩ (by kernel_rfl) rfl
    (fun f fn hf hfn => by
      obtain rfl : f = 8 := Option.some.inj ((show Tryz.prog.funcNamed "outrider/outriderlaw18.FlowFrom" = some 8 by kernel_rfl).symm.trans hf) |>.symm
      obtain rfl : fn = Tryz.f8 := (Option.some.inj (Tryz.func8.symm.trans hfn)).symm
      exact ⟨by kernel_rfl, stands⟩)
    (by kernel_rfl)
#print axioms proved
end Go.Proofs.YtkhhnpkmblldbaaGreatDoor.flowFrom
