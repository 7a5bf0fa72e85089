/- SegScans: the law returns true for every input, and each argument reads afterwards as it read before. Conditions: the listed package-level variables hold what the program's text lays there (tied by the card). -/
import Derived.Test.YtdacjomfipkpaaaDoorCards
import Derived.Test.YtdacjomfipkpaaaDoorTie
import Derived.WalkKit
import Derived.ProofKit
import Derived.OpenShut
import Derived.Lay
import Derived.SevenTiedAt
import Derived.Test.YtdacjomfipkpaaaDoorSgV
import Derived.Test.YtdacjomfipkpaaaDoorHand
namespace Go.Proofs.YtdacjomfipkpaaaDoor.segScans
open Go.ChangeShapes Go.WideShapes Go.ChangeAt Go.RowKit Am
set_option linter.unusedVariables false
set_option linter.unusedSimpArgs false
theorem own : ownKnob Tryd.prog.godebug = none := by kernel_rfl
theorem laidOut : laidOutB Tryd.prog = true := by kernel_rfl
theorem plainLaid : (Rows.segScansRow.laid.all fun x => x.2.handleName?.isNone) = true := by kernel_rfl
set_option maxRecDepth 100000 in
theorem lifted (os : Os) (started : os.Started) (H : Type) (enc : TypeId × Value → H) :
    ReturnsInHanded {} Tryd.checked os 5 .any (fun w args => (Rows.segScansSpec.pre enc Tryd.prog Tryd.f5 [] false w args ∧ laidMetH Tryd.prog Rows.segScansRow.laid w) ∧ sizedMet enc Tryd.prog Tryd.f5 (OpenSpec.ofChange Rows.segScansSpec) false w args)
      (Rows.segScansSpec.post enc Tryd.prog Tryd.f5 false true false false) := by
  refine Hand.handed (g := 5) (by kernel_rfl) (by kernel_rfl) (C := Tryd.checked) (X := fun w _ => laidMetH Tryd.prog Rows.segScansRow.laid w) (fun _ _ _ hh h => h.of_heap hh) own started (by kernel_rfl) Tryd.func5
    (ChangeSpec.witness_shaped (enc := enc) (C := Tryd.checked) (os := os) (X := fun w _ => laidMetH Tryd.prog Rows.segScansRow.laid w) false (World.laidAll Tryd.prog os Rows.segScansRow.laid) #[.slice none 0 0, .int .i64 0, .int .i64 0, .int .i64 0] 8 (World.laidAll_os _ _ _)
      (World.shaped_of_ZipB (by kernel_rfl) (by kernel_rfl)) (by kernel_rfl) (by kernel_rfl) (by kernel_rfl)
      (by rw [MakeChecks.laidMetH_plain _ _ _ plainLaid]; exact laidMet_laidAll _ (by kernel_rfl) (by kernel_rfl))) ?_
  intro W base args ds gs before hsize hval0 hW _ _ hL _
  have hval : ∀ (j : Nat) t v, Tryd.f5.params[j]? = some t → args[j]? = some v → Value.okWide Tryd.prog W .any base t v := hval0
  have hW' := hW
  obtain ⟨p, q, hA0, hV, rfl, _, _⟩ := hW
  have hA : DataW.TrodAll enc Tryd.prog W 0 (fun _ => true) true Tryd.f5.params.toList args.toList ds p := hA0
  rw [Tryd.params5] at hA hval
  obtain ⟨v0, vs0, d0, ds0, p0, q0, hargs, rfl, rfl, h0, r0⟩ := trodAll_cons hA
  obtain ⟨v1, vs1, d1, ds1, p1, q1, rfl, rfl, rfl, h1, r1⟩ := trodAll_cons r0
  obtain ⟨v2, vs2, d2, ds2, p2, q2, rfl, rfl, rfl, h2, r2⟩ := trodAll_cons r1
  obtain ⟨v3, vs3, d3, ds3, p3, q3, rfl, rfl, rfl, h3, r3⟩ := trodAll_cons r2
  obtain ⟨rfl, rfl, rfl⟩ := trodAll_nil r3
  obtain rfl : args = #[v0, v1, v2, v3] := by cases args; simp_all
  obtain ⟨rfl, rfl⟩ := trodVars_none hV
  rw [MakeChecks.laidMetH_plain _ _ _ plainLaid] at hL
  have k0 := h0
  have lt0 : ∀ x ∈ p0, x.block < W.heap.size := by obtain ⟨m, hm⟩ := k0; exact DataW.trod_lt m _ _ _ hm
  have k1 := h1
  have lt1 : ∀ x ∈ p1, x.block < W.heap.size := by obtain ⟨m, hm⟩ := k1; exact DataW.trod_lt m _ _ _ hm
  have k2 := h2
  have lt2 : ∀ x ∈ p2, x.block < W.heap.size := by obtain ⟨m, hm⟩ := k2; exact DataW.trod_lt m _ _ _ hm
  have k3 := h3
  have lt3 : ∀ x ∈ p3, x.block < W.heap.size := by obtain ⟨m, hm⟩ := k3; exact DataW.trod_lt m _ _ _ hm
  have ok0 := hval 0 37 v0 rfl rfl
  have ok1 := hval 1 2 v1 rfl rfl
  have ok2 := hval 2 2 v2 rfl rfl
  have ok3 := hval 3 3 v3 rfl rfl
  clear hA0 hval0
  have a0 : K.ArgOf enc Tryd.prog W 0 (fun _ => true) true (.slice 3 (.struct 3 [(0, 1, (.int .i64)), (1, 1, (.int .i64)), (2, 1, (.slice 1 (.int .u8)))])) 37 v0 := by
    obtain ⟨f, hf⟩ := h0
    exact ⟨(.slice Tryd.underlying37 (by kernel_rfl) (by decide) (.struct Tryd.underlying43 (by kernel_rfl) rfl ⟨rfl, rfl, rfl, rfl⟩ (K.fs_cons ⟨rfl, by kernel_rfl⟩ (K.fs_cons ⟨rfl, by kernel_rfl⟩ (K.fs_cons ⟨rfl, by kernel_rfl⟩ K.fs_nil))) (K.fs_cons (.int Tryd.underlying2) (K.fs_cons (.int Tryd.underlying2) (K.fs_cons (.slice Tryd.underlying28 (by kernel_rfl) (by decide) (.int Tryd.underlying5)) K.fs_nil))))), ⟨f, _, hf⟩, (fun h => by cases h), (fun _ => by obtain ⟨x1, x2, x3, rfl⟩ := okWide_slice Tryd.underlying37 ok0; rfl)⟩
  have a1 : K.ArgOf enc Tryd.prog W 0 (fun _ => true) true (.int .i64) 2 v1 := by
    obtain ⟨f, hf⟩ := h1
    exact ⟨(.int Tryd.underlying2), ⟨f, _, hf⟩, (fun h => by cases h), (fun _ => by obtain ⟨x1, rfl⟩ := okWide_int Tryd.underlying2 ok1; rfl)⟩
  have a2 : K.ArgOf enc Tryd.prog W 0 (fun _ => true) true (.int .i64) 2 v2 := by
    obtain ⟨f, hf⟩ := h2
    exact ⟨(.int Tryd.underlying2), ⟨f, _, hf⟩, (fun h => by cases h), (fun _ => by obtain ⟨x1, rfl⟩ := okWide_int Tryd.underlying2 ok2; rfl)⟩
  have a3 : K.ArgOf enc Tryd.prog W 0 (fun _ => true) true (.int .i64) 3 v3 := by
    obtain ⟨f, hf⟩ := h3
    exact ⟨(.int Tryd.underlying3), ⟨f, _, hf⟩, (fun h => by cases h), (fun _ => by obtain ⟨x1, rfl⟩ := okWide_int Tryd.underlying3 ok3; rfl)⟩
  refine (SgEnv.lawRun Tryd.func5 rfl SgK.an hL hsize (fun _ => rfl) (.cons a0 (.cons a1 (.cons a2 (.cons a3 .nil)))) fun H as' ds h hT hn => SgK.scans_top h hT hn).mono fun e W' ⟨he, bel⟩ => ?_
  subst he
  exact ⟨_, rfl, _, _, _, [], _, [], hW', trodAll_mk1 (shut_bool Tryd.underlying4 _), (trodAll_cons_mk (Below.trod laidOut (by kernel_rfl) (of_decide_eq_true (by kernel_rfl)) k0 bel lt0) (trodAll_cons_mk (Below.trod laidOut (by kernel_rfl) (of_decide_eq_true (by kernel_rfl)) k1 bel lt1) (trodAll_cons_mk (Below.trod laidOut (by kernel_rfl) (of_decide_eq_true (by kernel_rfl)) k2 bel lt2) (trodAll_cons_mk (Below.trod laidOut (by kernel_rfl) (of_decide_eq_true (by kernel_rfl)) k3 bel lt3) trodAll_mk0)))), rfl, bel.frame _, fun h => by cases h⟩
theorem over : Rows.segScansRow.holds Tryd.pinned (OpenSpec.ofChange Rows.segScansSpec) :=
  OpenClaim.holds_of_wide 5 Tryd.f5 rfl rfl rfl rfl rfl rfl rfl ⟨rfl, rfl, rfl, rfl, rfl⟩ rfl rfl rfl rfl rfl (by kernel_rfl) Tryd.func5 (by kernel_rfl)
    (of_decide_eq_true (by kernel_rfl)) (by unfold Func.isWrapper; first | (rw [if_pos (by decide +kernel)]; kernel_rfl) | (rw [if_neg (by decide +kernel)]; exact ⟨rfl, rfl⟩))
    (fun os started H enc _ => lifted os started H enc)
theorem stands : ∀ (j : Nat) t, Tryd.f5.params[j]? = some t → Tryd.prog.wantsStandIn t = false := by
  intro j t ht
  rw [Tryd.params5] at ht
  cases j with
  | zero => cases ht; kernel_rfl
  | succ j =>
    cases j with
    | zero => cases ht; kernel_rfl
    | succ j =>
      cases j with
      | zero => cases ht; kernel_rfl
      | succ j =>
        cases j with
        | zero => cases ht; kernel_rfl
        | succ j =>
          simp at ht
theorem proved : Rows.SegScansCardSaid :=
  Claim7.holds_tied_plain_at .later [] [.data, .data, .data, .sentinel, .sentinel] true (true, "c4a850e6b6b06c621ff0e234282ebe4dab5bc829a76f555b3d10d2049f5b3f98") true over (fun _ h => by cases h) (by kernel_rfl) (fun _ h => by cases h) segScans_row_tie rfl ⟨rfl, rfl⟩ (by kernel_rfl) rfl
    (fun f fn hf hfn => by
      obtain rfl : f = 5 := Option.some.inj ((show Tryd.prog.funcNamed "outrider/outriderlaw6.SegScans" = some 5 by kernel_rfl).symm.trans hf) |>.symm
      obtain rfl : fn = Tryd.f5 := (Option.some.inj (Tryd.func5.symm.trans hfn)).symm
      exact ⟨by kernel_rfl, stands⟩)
    (by kernel_rfl)
#print axioms proved
end Go.Proofs.YtdacjomfipkpaaaDoor.segScans
