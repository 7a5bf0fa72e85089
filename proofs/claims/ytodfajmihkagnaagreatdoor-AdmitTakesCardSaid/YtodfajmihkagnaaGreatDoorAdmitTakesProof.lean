/- AdmitTakes: the law returns true for every input, and each argument reads afterwards as it read before. Conditions: the listed package-level variables hold what the program's text lays there (tied by the card). -/
import Derived.Test.YtodfajmihkagnaaGreatDoorCards
import Derived.Test.YtodfajmihkagnaaGreatDoorTie
import Derived.WalkKit
import Derived.ProofKit
import Derived.OpenShut
import Derived.Lay
import Derived.SevenTiedAt
import Derived.Test.YtodfajmihkagnaaGreatDoorFlD
set_option maxRecDepth 100000
set_option linter.unusedVariables false
set_option linter.unusedSimpArgs false
namespace Go.Proofs.YtodfajmihkagnaaGreatDoor.admitTakes
open Go.ChangeShapes Go.WideShapes Go.ChangeAt Go.RowKit Am
theorem own : ownKnob Tryz.prog.godebug = none := by kernel_rfl
theorem laidOut : laidOutB Tryz.prog = true := by kernel_rfl
theorem TB : (Rows.admitTakesRow.laid.all fun x => x.2.handleName?.isNone) = true := by kernel_rfl
theorem lifted (os : Os)(started : os.Started)(H : Type)(enc : TypeId × Value -> H) :
    ReturnsInHanded {} Tryz.checked os 4 .any (fun w args => (Rows.admitTakesSpec.pre enc Tryz.prog Tryz.f4 [] false w args /\ laidMetH Tryz.prog Rows.admitTakesRow.laid w) /\ sizedMet enc Tryz.prog Tryz.f4 (OpenSpec.ofChange Rows.admitTakesSpec) false w args)
      (Rows.admitTakesSpec.post enc Tryz.prog Tryz.f4 false true false false) := by
  refine Hand.handed (g := 7) (by kernel_rfl) (by kernel_rfl) (C := Tryz.checked) (X := fun w _ => laidMetH Tryz.prog Rows.admitTakesRow.laid w) (fun _ _ _ hh h => h.of_heap hh) own started (by kernel_rfl) Tryz.func4
    (ChangeSpec.witness_shaped (enc := enc) (C := Tryz.checked) (os := os) (X := fun w _ => laidMetH Tryz.prog Rows.admitTakesRow.laid w) false (World.laidAll Tryz.prog os Rows.admitTakesRow.laid) #[.slice none 0 0, .int .i64 0] 8 (World.laidAll_os _ _ _)
      (World.shaped_of_ZipB (by kernel_rfl) (by kernel_rfl)) (by kernel_rfl) (by kernel_rfl) (by kernel_rfl)
      (by rw[MakeChecks.laidMetH_plain _ _ _ TB];exact laidMet_laidAll _ (by kernel_rfl) (by kernel_rfl))) ?_
  intro W base args ds gs before akg Ws hW _ wg hL _
  have Az : ∀ (j : Nat) t v, Tryz.f4.params[j]? = some t -> args[j]? = some v -> Value.okWide Tryz.prog W .any base t v := Ws
  have hW' := hW
  obtain⟨p, q, Wj, hV, rfl, _, _⟩ := hW
  have hA : DataW.TrodAll enc Tryz.prog W 0 (fun _ => true) true Tryz.f4.params.toList args.toList ds p := Wj
  rw[Tryz.params4] at hA Az
  obtain⟨v0, vs0, d0, ds0, p0, q0, kV, rfl, rfl, h0, r0⟩ := trodAll_cons hA
  obtain⟨v1, vs1, d1, ds1, p1, q1, rfl, rfl, rfl, h1, r1⟩ := trodAll_cons r0
  obtain⟨rfl, rfl, rfl⟩ := trodAll_nil r1
  obtain rfl : args = #[v0, v1] := by cases args;simp_all
  obtain⟨rfl, rfl⟩ := trodVars_none hV
  rw[MakeChecks.laidMetH_plain _ _ _ TB] at hL
  have k0 := h0
  have lt0 : ∀ x ∈ p0, x.block<W.heap.size := by obtain⟨m, hm⟩ := k0;exact DataW.trod_lt m _ _ _ hm
  have k1 := h1
  have lt1 : ∀ x ∈ p1, x.block<W.heap.size := by obtain⟨m, hm⟩ := k1;exact DataW.trod_lt m _ _ _ hm
  have MI := Az 0 34 v0 rfl rfl
  have xS := Az 1 2 v1 rfl rfl
  clear Wj Ws
  have a0 : K.KA enc Tryz.prog W 0 (fun _ => true) true (.slice 9 (.struct 9 [(0, 1, (.int .i64)), (1, 1, (.int .i64)), (2, 1, (.int .i64)), (3, 1, (.int .i64)), (4, 1, (.int .i64)), (5, 1, (.int .i64)), (6, 1, .str), (7, 1, .str), (8, 1, .str)])) 34 v0 := by
    obtain⟨f, hf⟩ := h0
    exact⟨(.slice Tryz.underlying34 (by kernel_rfl) (by decide) (.struct Tryz.underlying37 (by kernel_rfl) rfl ⟨rfl, rfl, rfl, rfl, rfl, rfl, rfl, rfl, rfl, rfl⟩ (K.nD ⟨rfl, by kernel_rfl⟩ (K.nD ⟨rfl, by kernel_rfl⟩ (K.nD ⟨rfl, by kernel_rfl⟩ (K.nD ⟨rfl, by kernel_rfl⟩ (K.nD ⟨rfl, by kernel_rfl⟩ (K.nD ⟨rfl, by kernel_rfl⟩ (K.nD ⟨rfl, by kernel_rfl⟩ (K.nD ⟨rfl, by kernel_rfl⟩ (K.nD ⟨rfl, by kernel_rfl⟩ K.ZW))))))))) (K.nD (.int Tryz.underlying3) (K.nD (.int Tryz.underlying3) (K.nD (.int Tryz.underlying3) (K.nD (.int Tryz.underlying3) (K.nD (.int Tryz.underlying2) (K.nD (.int Tryz.underlying2) (K.nD (.str Tryz.underlying9) (K.nD (.str Tryz.underlying9) (K.nD (.str Tryz.underlying9) K.ZW))))))))))), ⟨f, _, hf, fun k hk => of_decide_eq_true (adY.1 wg k (K.Je (j := 0) (by kernel_rfl) rfl hk))⟩, (fun h => by cases h), (fun _ => by obtain⟨x1, x2, x3, rfl⟩ := okWide_slice Tryz.underlying34 MI;rfl)⟩
  have a1 : K.KA enc Tryz.prog W 0 (fun _ => true) true (.int .i64) 2 v1 := by
    obtain⟨f, hf⟩ := h1
    exact⟨(.int Tryz.underlying2), ⟨f, _, hf, fun k hk => of_decide_eq_true (adY.1 wg k (K.Je (j := 1) (by kernel_rfl) rfl hk))⟩, (fun h => by cases h), (fun _ => by obtain⟨x1, rfl⟩ := okWide_int Tryz.underlying2 xS;rfl)⟩
  refine (jY.aji Tryz.func4 rfl DfK.an DfK.anOK hL akg (fun _ => rfl) (.cons a0 (.cons a1 .nil)) fun H aS ds h hT hn => DfK.takes_top h hT hn).mono fun e W' ⟨he, M9⟩ => ?_
  subst he
  exact⟨_, rfl, _, _, _, [], _, [], hW', trodAll_mk1 (shut_bool Tryz.underlying4 _), (trodAll_cons_mk (Below.trod laidOut (by kernel_rfl) (of_decide_eq_true (by kernel_rfl)) k0 M9 lt0) (trodAll_cons_mk (Below.trod laidOut (by kernel_rfl) (of_decide_eq_true (by kernel_rfl)) k1 M9 lt1) trodAll_mk0)), rfl, M9.frame _, fun h => by cases h⟩
theorem over : Rows.admitTakesRow.holds Tryz.pinned (OpenSpec.ofChange Rows.admitTakesSpec) :=
  OpenClaim.holds_of_wide 4 Tryz.f4 rfl rfl rfl rfl rfl rfl rfl ⟨rfl, rfl, rfl, rfl, rfl⟩ rfl rfl rfl rfl rfl (by kernel_rfl) Tryz.func4 (by kernel_rfl)
    (of_decide_eq_true (by kernel_rfl)) (by unfold Func.isWrapper;first | (rw[if_pos (by decide +kernel)];kernel_rfl) | (rw[if_neg (by decide +kernel)];exact⟨rfl, rfl⟩))
    (fun os started H enc _ => lifted os started H enc)
theorem acm : ∀ (j : Nat) t, Tryz.f4.params[j]? = some t -> Tryz.prog.wantsStandIn t = false := by
  intro j t ht
  rw[Tryz.params4] at ht
  cases j with
  | zero => cases ht;kernel_rfl
  | succ j =>
    cases j with
    | zero => cases ht;kernel_rfl
    | succ j =>
      simp at ht
theorem proved : Rows.AdmitTakesCardSaid :=
  Claim7.holds_tied_plain_at .later [] [.data, .data, .data, .data, .sentinel, .sentinel, .pinned] true (true, "3823f31e3f89b1fae9cd26b98caba47efd1dd045aa008ac3ea43e2c3d45e2763") true over (fun _ h => by cases h) (by kernel_rfl) (fun _ h => by cases h) admitTakes_row_tie rfl ⟨rfl, rfl⟩ (by kernel_rfl) rfl
    (fun f fn hf vt => by
      obtain rfl : f = 4 := adw ((show Tryz.prog.funcNamed "outrider/outriderlaw20.AdmitTakes" = some 4 by kernel_rfl).symm.trans hf) |>.symm
      obtain rfl : fn = Tryz.f4 := (adw (Tryz.func4.symm.trans vt)).symm
      exact⟨by kernel_rfl, acm⟩)
    (by kernel_rfl)
#print axioms proved
end Go.Proofs.YtodfajmihkagnaaGreatDoor.admitTakes
