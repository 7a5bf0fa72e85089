/- FlowStates: the law returns true for every input, and each argument reads afterwards as it read before. Conditions: the listed package-level variables hold what the program's text lays there (tied by the card). -/
import Derived.Test.YtodfajmihkagnaaGreatDoorCards
import Derived.Test.YtodfajmihkagnaaGreatDoorTie
import Derived.WalkKit
import Derived.ProofKit
import Derived.OpenShut
import Derived.Lay
import Derived.SevenTiedAt
import Derived.Test.YtodfajmihkagnaaGreatDoorFlV
set_option maxRecDepth 100000
set_option linter.unusedVariables false
set_option linter.unusedSimpArgs false
namespace Go.Proofs.YtodfajmihkagnaaGreatDoor.flowStates
open Go.ChangeShapes Go.WideShapes Go.ChangeAt Go.RowKit Am
theorem own : ownKnob Tryz.prog.godebug = none := by kernel_rfl
theorem laidOut : laidOutB Tryz.prog = true := by kernel_rfl
theorem Zx : (Rows.flowStatesRow.laid.all fun x => x.2.handleName?.isNone) = true := by kernel_rfl
theorem lifted (os : Os)(started : os.Started)(H : Type)(enc : TypeId × Value -> H) :
    ReturnsInHanded {} Tryz.checked os 6 .any (fun w args => (Rows.flowStatesSpec.pre enc Tryz.prog Tryz.f6 [] false w args /\ laidMetH Tryz.prog Rows.flowStatesRow.laid w) /\ sizedMet enc Tryz.prog Tryz.f6 (OpenSpec.ofChange Rows.flowStatesSpec) false w args)
      (Rows.flowStatesSpec.post enc Tryz.prog Tryz.f6 false true false false) := by
  refine Hand.handed (g := 7) (by kernel_rfl) (by kernel_rfl) (C := Tryz.checked) (X := fun w _ => laidMetH Tryz.prog Rows.flowStatesRow.laid w) (fun _ _ _ hh h => h.of_heap hh) own started (by kernel_rfl) Tryz.func6
    (ChangeSpec.witness_shaped (enc := enc) (C := Tryz.checked) (os := os) (X := fun w _ => laidMetH Tryz.prog Rows.flowStatesRow.laid w) false (World.laidAll Tryz.prog os Rows.flowStatesRow.laid) #[.slice none 0 0, .slice none 0 0] 8 (World.laidAll_os _ _ _)
      (World.shaped_of_ZipB (by kernel_rfl) (by kernel_rfl)) (by kernel_rfl) (by kernel_rfl) (by kernel_rfl)
      (by rw[MakeChecks.laidMetH_plain _ _ _ Zx];exact laidMet_laidAll _ (by kernel_rfl) (by kernel_rfl))) ?_
  intro W base args ds gs before ahf Yb hW _ xZ hL _
  have Dd : ∀ (j : Nat) t v, Tryz.f6.params[j]? = some t -> args[j]? = some v -> Value.okWide Tryz.prog W .any base t v := Yb
  have hW' := hW
  obtain⟨p, q, Xq, hV, rfl, _, _⟩ := hW
  have hA : DataW.TrodAll enc Tryz.prog W 0 (fun _ => true) true Tryz.f6.params.toList args.toList ds p := Xq
  rw[Tryz.params6] at hA Dd
  obtain⟨v0, vs0, d0, ds0, p0, q0, mw, rfl, rfl, h0, r0⟩ := trodAll_cons hA
  obtain⟨v1, vs1, d1, ds1, p1, q1, rfl, rfl, rfl, h1, r1⟩ := trodAll_cons r0
  obtain⟨rfl, rfl, rfl⟩ := trodAll_nil r1
  obtain rfl : args = #[v0, v1] := by cases args;simp_all
  obtain⟨rfl, rfl⟩ := trodVars_none hV
  rw[MakeChecks.laidMetH_plain _ _ _ Zx] at hL
  have k0 := h0
  have lt0 : ∀ x ∈ p0, x.block<W.heap.size := by obtain⟨m, hm⟩ := k0;exact DataW.trod_lt m _ _ _ hm
  have k1 := h1
  have lt1 : ∀ x ∈ p1, x.block<W.heap.size := by obtain⟨m, hm⟩ := k1;exact DataW.trod_lt m _ _ _ hm
  have Vk := Dd 0 22 v0 rfl rfl
  have yZ := Dd 1 22 v1 rfl rfl
  clear Xq Yb
  have a0 : K.Nc enc Tryz.prog W 0 (fun _ => true) true (.slice 8 (.struct 8 [(0, 1, (.int .i64)), (1, 1, (.int .i64)), (2, 1, (.int .i64)), (3, 1, (.int .i64)), (4, 1, (.int .i64)), (5, 1, .str), (6, 1, .str), (7, 1, .str)])) 22 v0 := by
    obtain⟨f, hf⟩ := h0
    exact⟨(.slice Tryz.underlying22 (by kernel_rfl) (by decide) (.struct Tryz.underlying26 (by kernel_rfl) rfl ⟨rfl, rfl, rfl, rfl, rfl, rfl, rfl, rfl, rfl⟩ (K.ie ⟨rfl, by kernel_rfl⟩ (K.ie ⟨rfl, by kernel_rfl⟩ (K.ie ⟨rfl, by kernel_rfl⟩ (K.ie ⟨rfl, by kernel_rfl⟩ (K.ie ⟨rfl, by kernel_rfl⟩ (K.ie ⟨rfl, by kernel_rfl⟩ (K.ie ⟨rfl, by kernel_rfl⟩ (K.ie ⟨rfl, by kernel_rfl⟩ K.Li)))))))) (K.ie (.int Tryz.underlying3) (K.ie (.int Tryz.underlying3) (K.ie (.int Tryz.underlying3) (K.ie (.int Tryz.underlying3) (K.ie (.int Tryz.underlying2) (K.ie (.str Tryz.underlying9) (K.ie (.str Tryz.underlying9) (K.ie (.str Tryz.underlying9) K.Li)))))))))), ⟨f, _, hf, fun k hk => of_decide_eq_true (aeO.1 xZ k (K.Lm (j := 0) (by kernel_rfl) rfl hk))⟩, (fun h => by cases h), (fun _ => by obtain⟨x1, x2, x3, rfl⟩ := okWide_slice Tryz.underlying22 Vk;rfl)⟩
  have a1 : K.Nc enc Tryz.prog W 0 (fun _ => true) true (.slice 8 (.struct 8 [(0, 1, (.int .i64)), (1, 1, (.int .i64)), (2, 1, (.int .i64)), (3, 1, (.int .i64)), (4, 1, (.int .i64)), (5, 1, .str), (6, 1, .str), (7, 1, .str)])) 22 v1 := by
    obtain⟨f, hf⟩ := h1
    exact⟨(.slice Tryz.underlying22 (by kernel_rfl) (by decide) (.struct Tryz.underlying26 (by kernel_rfl) rfl ⟨rfl, rfl, rfl, rfl, rfl, rfl, rfl, rfl, rfl⟩ (K.ie ⟨rfl, by kernel_rfl⟩ (K.ie ⟨rfl, by kernel_rfl⟩ (K.ie ⟨rfl, by kernel_rfl⟩ (K.ie ⟨rfl, by kernel_rfl⟩ (K.ie ⟨rfl, by kernel_rfl⟩ (K.ie ⟨rfl, by kernel_rfl⟩ (K.ie ⟨rfl, by kernel_rfl⟩ (K.ie ⟨rfl, by kernel_rfl⟩ K.Li)))))))) (K.ie (.int Tryz.underlying3) (K.ie (.int Tryz.underlying3) (K.ie (.int Tryz.underlying3) (K.ie (.int Tryz.underlying3) (K.ie (.int Tryz.underlying2) (K.ie (.str Tryz.underlying9) (K.ie (.str Tryz.underlying9) (K.ie (.str Tryz.underlying9) K.Li)))))))))), ⟨f, _, hf, fun k hk => of_decide_eq_true (aeO.1 xZ k (K.Lm (j := 1) (by kernel_rfl) rfl hk))⟩, (fun h => by cases h), (fun _ => by obtain⟨x1, x2, x3, rfl⟩ := okWide_slice Tryz.underlying22 yZ;rfl)⟩
  refine (lN.aqm Tryz.func6 rfl DfK.an DfK.anOK hL ahf (fun _ => rfl) (.cons a0 (.cons a1 .nil)) fun H aW ds h hT hn => DfK.states_top h hT hn).mono fun e W' ⟨he, QK⟩ => ?_
  subst he
  exact⟨_, rfl, _, _, _, [], _, [], hW', trodAll_mk1 (shut_bool Tryz.underlying4 _), (trodAll_cons_mk (Below.trod laidOut (by kernel_rfl) (of_decide_eq_true (by kernel_rfl)) k0 QK lt0) (trodAll_cons_mk (Below.trod laidOut (by kernel_rfl) (of_decide_eq_true (by kernel_rfl)) k1 QK lt1) trodAll_mk0)), rfl, QK.frame _, fun h => by cases h⟩
theorem over : Rows.flowStatesRow.holds Tryz.pinned (OpenSpec.ofChange Rows.flowStatesSpec) :=
  OpenClaim.holds_of_wide 6 Tryz.f6 rfl rfl rfl rfl rfl rfl rfl ⟨rfl, rfl, rfl, rfl, rfl⟩ rfl rfl rfl rfl rfl (by kernel_rfl) Tryz.func6 (by kernel_rfl)
    (of_decide_eq_true (by kernel_rfl)) (by unfold Func.isWrapper;first | (rw[if_pos (by decide +kernel)];kernel_rfl) | (rw[if_neg (by decide +kernel)];exact⟨rfl, rfl⟩))
    (fun os started H enc _ => lifted os started H enc)
theorem ape : ∀ (j : Nat) t, Tryz.f6.params[j]? = some t -> Tryz.prog.wantsStandIn t = false := by
  intro j t ht
  rw[Tryz.params6] at ht
  cases j with
  | zero => cases ht;kernel_rfl
  | succ j =>
    cases j with
    | zero => cases ht;kernel_rfl
    | succ j =>
      simp at ht
theorem proved : Rows.FlowStatesCardSaid :=
  Claim7.holds_tied_plain_at .later [] [.data, .data, .data, .data, .sentinel, .sentinel, .pinned] true (true, "3823f31e3f89b1fae9cd26b98caba47efd1dd045aa008ac3ea43e2c3d45e2763") true over (fun _ h => by cases h) (by kernel_rfl) (fun _ h => by cases h) flowStates_row_tie rfl ⟨rfl, rfl⟩ (by kernel_rfl) rfl
    (fun f fn hf Qc => by
      obtain rfl : f = 6 := ac8 ((show Tryz.prog.funcNamed "outrider/outriderlaw18.FlowStates" = some 6 by kernel_rfl).symm.trans hf) |>.symm
      obtain rfl : fn = Tryz.f6 := (ac8 (Tryz.func6.symm.trans Qc)).symm
      exact⟨by kernel_rfl, ape⟩)
    (by kernel_rfl)
#print axioms proved
end Go.Proofs.YtodfajmihkagnaaGreatDoor.flowStates
