/- FlowKeys: the law returns true for every input, and each argument reads afterwards as it read before. Conditions: the listed package-level variables hold what the program's text lays there (tied by the card). -/
import Derived.Test.YtkhhnpkmblldbaaGreatDoorFlowKeysFacts
import Derived.Test.YtkhhnpkmblldbaaGreatDoorCards
import Derived.Test.YtkhhnpkmblldbaaGreatDoorTie
import Derived.WalkKit
import Derived.ProofKit
import Derived.OpenShut
import Derived.Lay
import Derived.SevenTiedAt
import Derived.Test.YtkhhnpkmblldbaaGreatDoorDfB
namespace Go.Proofs.YtkhhnpkmblldbaaGreatDoor.flowKeys
open Go.ChangeShapes Go.WideShapes Go.ChangeAt Go.RowKit Am
set_option linter.unusedVariables false
set_option linter.unusedSimpArgs false
theorem own : ownKnob Tryz.prog.godebug = none := by kernel_rfl
theorem laidOut : laidOutB Tryz.prog = true := by kernel_rfl
theorem plainLaid : (Rows.flowKeysRow.laid.all fun x => x.2.handleName?.isNone) = true := by kernel_rfl
set_option maxRecDepth 100000 in
theorem lifted (os : Os) (started : os.Started) (H : Type) (enc : TypeId × Value → H) :
    ReturnsInHanded {} Tryz.checked os 4 .any (fun w args => (Rows.flowKeysSpec.pre enc Tryz.prog Tryz.f4 [] false w args ∧ laidMetH Tryz.prog Rows.flowKeysRow.laid w) ∧ sizedMet enc Tryz.prog Tryz.f4 (OpenSpec.ofChange Rows.flowKeysSpec) false w args)
      (Rows.flowKeysSpec.post enc Tryz.prog Tryz.f4 false true false false) := by
  refine Hand.handed (g := 7) (by kernel_rfl) (by kernel_rfl) (C := Tryz.checked) (X := fun w _ => laidMetH Tryz.prog Rows.flowKeysRow.laid w) (fun _ _ _ hh h => h.of_heap hh) own started (by kernel_rfl) Tryz.func4
    (ChangeSpec.witness_shaped (enc := enc) (C := Tryz.checked) (os := os) (X := fun w _ => laidMetH Tryz.prog Rows.flowKeysRow.laid w) false (World.laidAll Tryz.prog os Rows.flowKeysRow.laid) #[.int .i64 0, .slice none 0 0] 8 (World.laidAll_os _ _ _)
      (World.shaped_of_ZipB (by kernel_rfl) (by kernel_rfl)) (by kernel_rfl) (by kernel_rfl) (by kernel_rfl)
      (by rw [MakeChecks.laidMetH_plain _ _ _ plainLaid]; exact laidMet_laidAll _ (by kernel_rfl) (by kernel_rfl))) ?_
  intro W base args ds gs before hsize hval0 hW _ hwt hL _
  have hval : ∀ (j : Nat) t v, Tryz.f4.params[j]? = some t → args[j]? = some v → Value.okWide Tryz.prog W .any base t v := hval0
  have hW' := hW
  obtain ⟨p, q, hA0, hV, rfl, _, _⟩ := hW
  have hA : DataW.TrodAll enc Tryz.prog W 0 (fun _ => true) true Tryz.f4.params.toList args.toList ds p := hA0
  rw [Tryz.params4] at hA hval
  obtain ⟨v0, vs0, d0, ds0, p0, q0, hargs, rfl, rfl, h0, r0⟩ := trodAll_cons hA
  obtain ⟨v1, vs1, d1, ds1, p1, q1, rfl, rfl, rfl, h1, r1⟩ := trodAll_cons r0
  obtain ⟨rfl, rfl, rfl⟩ := trodAll_nil r1
  obtain rfl : args = #[v0, v1] := by cases args; simp_all
  obtain ⟨rfl, rfl⟩ := trodVars_none hV
  rw [MakeChecks.laidMetH_plain _ _ _ plainLaid] at hL
  have k0 := h0
  have lt0 : ∀ x ∈ p0, x.block < W.heap.size := by obtain ⟨m, hm⟩ := k0; exact DataW.trod_lt m _ _ _ hm
  have k1 := h1
  have lt1 : ∀ x ∈ p1, x.block < W.heap.size := by obtain ⟨m, hm⟩ := k1; exact DataW.trod_lt m _ _ _ hm
  have ok0 := hval 0 3 v0 rfl rfl
  have ok1 := hval 1 32 v1 rfl rfl
  clear hA0 hval0
  have a0 : K.ArgOf enc Tryz.prog W 0 (fun _ => true) true (.int .i64) 3 v0 := by
    obtain ⟨f, hf⟩ := h0
    exact ⟨(.int Tryz.underlying3), ⟨f, _, hf, fun k hk => of_decide_eq_true (List.all_eq_true.1 hwt k (K.w_each (j := 0) (by kernel_rfl) rfl hk))⟩, (fun h => by cases h), (fun _ => by obtain ⟨x1, rfl⟩ := okWide_int Tryz.underlying3 ok0; rfl)⟩
  have a1 : K.ArgOf enc Tryz.prog W 0 (fun _ => true) true (.slice 1 .bool) 32 v1 := by
    obtain ⟨f, hf⟩ := h1
    exact ⟨(.slice Tryz.underlying32 (by kernel_rfl) (by decide) (.bool Tryz.underlying4)), ⟨f, _, hf, fun k hk => of_decide_eq_true (List.all_eq_true.1 hwt k (K.w_each (j := 1) (by kernel_rfl) rfl hk))⟩, (fun h => by cases h), (fun _ => by obtain ⟨x1, x2, x3, rfl⟩ := okWide_slice Tryz.underlying32 ok1; rfl)⟩
  refine (DfEnv.lawRun Tryz.func4 rfl DfK.an DfK.anOK hL hsize (fun _ => rfl) (.cons a0 (.cons a1 .nil)) fun H as' ds h hT hn => DfK.keys_top h hT hn).mono fun e W' ⟨he, bel⟩ => ?_
  subst he
  exact ⟨_, rfl, _, _, _, [], _, [], hW', trodAll_mk1 (shut_bool Tryz.underlying4 _), (trodAll_cons_mk (Below.trod laidOut (by kernel_rfl) (of_decide_eq_true (by kernel_rfl)) k0 bel lt0) (trodAll_cons_mk (Below.trod laidOut (by kernel_rfl) (of_decide_eq_true (by kernel_rfl)) k1 bel lt1) trodAll_mk0)), rfl, bel.frame _, fun h => by cases h⟩
theorem over : Rows.flowKeysRow.holds Tryz.pinned (OpenSpec.ofChange Rows.flowKeysSpec) :=
  OpenClaim.holds_of_wide 4 Tryz.f4 rfl rfl rfl rfl rfl rfl rfl ⟨rfl, rfl, rfl, rfl, rfl⟩ rfl rfl rfl rfl rfl (by kernel_rfl) Tryz.func4 FlowKeysFacts.closed
    (of_decide_eq_true (by kernel_rfl)) (by unfold Func.isWrapper; first | (rw [if_pos (by decide +kernel)]; kernel_rfl) | (rw [if_neg (by decide +kernel)]; exact ⟨rfl, rfl⟩))
    (fun os started H enc _ => lifted os started H enc)
theorem stands : ∀ (j : Nat) t, Tryz.f4.params[j]? = some t → Tryz.prog.wantsStandIn t = false := by
  intro j t ht
  rw [Tryz.params4] at ht
  cases j with
  | zero => cases ht; kernel_rfl
  | succ j =>
    cases j with
    | zero => cases ht; kernel_rfl
    | succ j =>
      simp at ht
theorem proved : Rows.FlowKeysCardSaid :=
  Claim7.holds_tied_plain_at .later [] [.data, .data, .data, .data, .sentinel, .sentinel, .pinned] true (true, "d2513614e99c67e799ac1721a24578e22613c483e4169fe3e9e793effdab6f21") true over (fun _ h => by cases h) (by kernel_rfl) (fun _ h => by cases h) flowKeys_row_tie rfl ⟨rfl, rfl⟩ (by kernel_rfl) rfl
    (fun f fn hf hfn => by
      obtain rfl : f = 4 := Option.some.inj ((show Tryz.prog.funcNamed "outrider/outriderlaw18.FlowKeys" = some 4 by kernel_rfl).symm.trans hf) |>.symm
      obtain rfl : fn = Tryz.f4 := (Option.some.inj (Tryz.func4.symm.trans hfn)).symm
      exact ⟨by kernel_rfl, stands⟩)
    (by kernel_rfl)
#print axioms proved
end Go.Proofs.YtkhhnpkmblldbaaGreatDoor.flowKeys
