/- StorePlays: the law returns true for every input, and each argument reads afterwards as it read before. Conditions: the listed package-level variables hold what the program's text lays there (tied by the card). -/
import Derived.Test.YtnabkcdchklnpaaDoorCards
import Derived.Test.YtnabkcdchklnpaaDoorTie
import Derived.WalkKit
import Derived.ProofKit
import Derived.OpenShut
import Derived.Lay
import Derived.SevenTiedAt
import Derived.Test.YtnabkcdchklnpaaDoorSpY
namespace Go.Proofs.YtnabkcdchklnpaaDoor.storePlays
open Go.ChangeShapes Go.WideShapes Go.ChangeAt Go.RowKit Am
set_option linter.unusedVariables false
set_option linter.unusedSimpArgs false
theorem own : ownKnob Tryd.prog.godebug = none := by kernel_rfl
theorem laidOut : laidOutB Tryd.prog = true := by kernel_rfl
theorem plainLaid : (Rows.storePlaysRow.laid.all fun x => x.2.handleName?.isNone) = true := by kernel_rfl
set_option maxRecDepth 100000 in
theorem lifted (os : Os) (started : os.Started) (H : Type) (enc : TypeId × Value → H) :
    ReturnsInHanded {} Tryd.checked os 8 .any (fun w args => (Rows.storePlaysSpec.pre enc Tryd.prog Tryd.f8 [] false w args ∧ laidMetH Tryd.prog Rows.storePlaysRow.laid w) ∧ sizedMet enc Tryd.prog Tryd.f8 (OpenSpec.ofChange Rows.storePlaysSpec) false w args)
      (Rows.storePlaysSpec.post enc Tryd.prog Tryd.f8 false true false false) := by
  refine Hand.handed (g := 2) (by kernel_rfl) (by kernel_rfl) (C := Tryd.checked) (X := fun w _ => laidMetH Tryd.prog Rows.storePlaysRow.laid w) (fun _ _ _ hh h => h.of_heap hh) own started (by kernel_rfl) Tryd.func8
    (ChangeSpec.witness_shaped (enc := enc) (C := Tryd.checked) (os := os) (X := fun w _ => laidMetH Tryd.prog Rows.storePlaysRow.laid w) false (World.laidAll Tryd.prog os Rows.storePlaysRow.laid) #[.int .i64 0, .slice none 0 0] 8 (World.laidAll_os _ _ _)
      (World.shaped_of_ZipB (by kernel_rfl) (by kernel_rfl)) (by kernel_rfl) (by kernel_rfl) (by kernel_rfl)
      (by rw [MakeChecks.laidMetH_plain _ _ _ plainLaid]; exact laidMet_laidAll _ (by kernel_rfl) (by kernel_rfl))) ?_
  intro W base args ds gs before hsize hval0 hW _ hwt hL _
  have hval : ∀ (j : Nat) t v, Tryd.f8.params[j]? = some t → args[j]? = some v → Value.okWide Tryd.prog W .any base t v := hval0
  have hW' := hW
  obtain ⟨p, q, hA0, hV, rfl, _, _⟩ := hW
  have hA : DataW.TrodAll enc Tryd.prog W 0 (fun _ => true) true Tryd.f8.params.toList args.toList ds p := hA0
  rw [Tryd.params8] at hA hval
  obtain ⟨v0, vs0, d0, ds0, p0, q0, hargs, rfl, rfl, h0, r0⟩ := trodAll_cons hA
  obtain ⟨v1, vs1, d1, ds1, p1, q1, rfl, rfl, rfl, h1, r1⟩ := trodAll_cons r0
  obtain ⟨rfl, rfl, rfl⟩ := trodAll_nil r1
  obtain rfl : args = #[v0, v1] := by cases args; simp_all
  obtain ⟨rfl, rfl⟩ := trodVars_none hV
  rw [MakeChecks.laidMetH_plain _ _ _ plainLaid] at hL
  have k0 := h0
  have lt0 : ∀ x ∈ p0, x.block < W.heap.size := by obtain ⟨m, hm⟩ := k0; exact DataW.trod_lt m _ _ _ hm
  have k1 := h1
  have lt1 : ∀ x ∈ p1, x.block < W.heap.size := by obtain ⟨m, hm⟩ := k1; exact DataW.trod_lt m _ _ _ hm
  have ok0 := hval 0 3 v0 rfl rfl
  have ok1 := hval 1 47 v1 rfl rfl
  clear hA0 hval0
  have a0 : K.ArgOf enc Tryd.prog W 0 (fun _ => true) true (.int .i64) 3 v0 := by
    obtain ⟨f, hf⟩ := h0
    exact ⟨(.int Tryd.underlying3), ⟨f, _, hf, fun k hk => of_decide_eq_true (List.all_eq_true.1 hwt k (K.w_each (j := 0) (by kernel_rfl) rfl hk))⟩, (fun h => by cases h), (fun _ => by obtain ⟨x1, rfl⟩ := okWide_int Tryd.underlying3 ok0; rfl)⟩
  have a1 : K.ArgOf enc Tryd.prog W 0 (fun _ => true) true (.slice 6 (.struct 6 [(0, 1, (.int .i64)), (1, 1, (.int .i64)), (2, 1, .str), (3, 1, .str), (4, 1, (.slice 1 (.int .u8))), (5, 1, (.slice 1 (.int .i64)))])) 47 v1 := by
    obtain ⟨f, hf⟩ := h1
    exact ⟨(.slice Tryd.underlying47 (by kernel_rfl) (by decide) (.struct Tryd.underlying53 (by kernel_rfl) rfl ⟨rfl, rfl, rfl, rfl, rfl, rfl, rfl⟩ (K.fs_cons ⟨rfl, by kernel_rfl⟩ (K.fs_cons ⟨rfl, by kernel_rfl⟩ (K.fs_cons ⟨rfl, by kernel_rfl⟩ (K.fs_cons ⟨rfl, by kernel_rfl⟩ (K.fs_cons ⟨rfl, by kernel_rfl⟩ (K.fs_cons ⟨rfl, by kernel_rfl⟩ K.fs_nil)))))) (K.fs_cons (.int Tryd.underlying3) (K.fs_cons (.int Tryd.underlying3) (K.fs_cons (.str Tryd.underlying9) (K.fs_cons (.str Tryd.underlying9) (K.fs_cons (.slice Tryd.underlying22 (by kernel_rfl) (by decide) (.int Tryd.underlying5)) (K.fs_cons (.slice Tryd.underlying40 (by kernel_rfl) (by decide) (.int Tryd.underlying3)) K.fs_nil)))))))), ⟨f, _, hf, fun k hk => of_decide_eq_true (List.all_eq_true.1 hwt k (K.w_each (j := 1) (by kernel_rfl) rfl hk))⟩, (fun h => by cases h), (fun _ => by obtain ⟨x1, x2, x3, rfl⟩ := okWide_slice Tryd.underlying47 ok1; rfl)⟩
  refine (StEnv.lawRun Tryd.func8 rfl StK.an StK.anOK hL hsize (fun _ => rfl) (.cons a0 (.cons a1 .nil)) fun H as' ds h hT hn => StP.plays_top h hT hn).mono fun e W' ⟨he, bel⟩ => ?_
  subst he
  exact ⟨_, rfl, _, _, _, [], _, [], hW', trodAll_mk1 (shut_bool Tryd.underlying4 _), (trodAll_cons_mk (Below.trod laidOut (by kernel_rfl) (of_decide_eq_true (by kernel_rfl)) k0 bel lt0) (trodAll_cons_mk (Below.trod laidOut (by kernel_rfl) (of_decide_eq_true (by kernel_rfl)) k1 bel lt1) trodAll_mk0)), rfl, bel.frame _, fun h => by cases h⟩
theorem over : Rows.storePlaysRow.holds Tryd.pinned (OpenSpec.ofChange Rows.storePlaysSpec) :=
  OpenClaim.holds_of_wide 8 Tryd.f8 rfl rfl rfl rfl rfl rfl rfl ⟨rfl, rfl, rfl, rfl, rfl⟩ rfl rfl rfl rfl rfl (by kernel_rfl) Tryd.func8 (by kernel_rfl)
    (of_decide_eq_true (by kernel_rfl)) (by unfold Func.isWrapper; first | (rw [if_pos (by decide +kernel)]; kernel_rfl) | (rw [if_neg (by decide +kernel)]; exact ⟨rfl, rfl⟩))
    (fun os started H enc _ => lifted os started H enc)
theorem stands : ∀ (j : Nat) t, Tryd.f8.params[j]? = some t → Tryd.prog.wantsStandIn t = false := by
  intro j t ht
  rw [Tryd.params8] at ht
  cases j with
  | zero => cases ht; kernel_rfl
  | succ j =>
    cases j with
    | zero => cases ht; kernel_rfl
    | succ j =>
      simp at ht
theorem proved : Rows.StorePlaysCardSaid :=
  Claim7.holds_tied_plain_at .later [] [.data, .pinned] true (true, "47a11c7af5332da24b3b507c417a734e2937cd54f40cd1af69bcd42423f87c1c") false over (fun _ h => by cases h) (by kernel_rfl) (fun _ h => by cases h) storePlays_row_tie rfl ⟨rfl, rfl⟩ (by kernel_rfl) rfl
    (fun f fn hf hfn => by
      obtain rfl : f = 8 := Option.some.inj ((show Tryd.prog.funcNamed "outrider/outriderlaw5.StorePlays" = some 8 by kernel_rfl).symm.trans hf) |>.symm
      obtain rfl : fn = Tryd.f8 := (Option.some.inj (Tryd.func8.symm.trans hfn)).symm
      exact ⟨by kernel_rfl, stands⟩)
    (by kernel_rfl)
#print axioms proved
end Go.Proofs.YtnabkcdchklnpaaDoor.storePlays
