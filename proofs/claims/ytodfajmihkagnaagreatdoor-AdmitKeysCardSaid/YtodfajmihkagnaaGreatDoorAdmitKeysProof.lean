/- AdmitKeys: the law returns true for every input, and each argument reads afterwards as it read before. Conditions: the listed package-level variables hold what the program's text lays there (tied by the card). -/
import Derived.Test.YtodfajmihkagnaaGreatDoorCards
import Derived.Test.YtodfajmihkagnaaGreatDoorTie
import Derived.WalkKit
import Derived.ProofKit
import Derived.OpenShut
import Derived.Lay
import Derived.SevenTiedAt
import Derived.Test.YtodfajmihkagnaaGreatDoorFlD
set_option maxRecDepth 100000
set_option linter.unusedVariables false
set_option linter.unusedSimpArgs false
namespace Go.Proofs.YtodfajmihkagnaaGreatDoor.admitKeys
open Go.ChangeShapes Go.WideShapes Go.ChangeAt Go.RowKit Am
theorem own : ownKnob Tryz.prog.godebug = none := by kernel_rfl
theorem laidOut : laidOutB Tryz.prog = true := by kernel_rfl
theorem Xs : (Rows.admitKeysRow.laid.all fun x => x.2.handleName?.isNone) = true := by kernel_rfl
theorem lifted (os : Os)(started : os.Started)(H : Type)(enc : TypeId × Value -> H) :
    ReturnsInHanded {} Tryz.checked os 5 .any (fun w args => (Rows.admitKeysSpec.pre enc Tryz.prog Tryz.f5 [] false w args /\ laidMetH Tryz.prog Rows.admitKeysRow.laid w) /\ sizedMet enc Tryz.prog Tryz.f5 (OpenSpec.ofChange Rows.admitKeysSpec) false w args)
      (Rows.admitKeysSpec.post enc Tryz.prog Tryz.f5 false true false false) := by
  refine Hand.handed (g := 7) (by kernel_rfl) (by kernel_rfl) (C := Tryz.checked) (X := fun w _ => laidMetH Tryz.prog Rows.admitKeysRow.laid w) (fun _ _ _ hh h => h.of_heap hh) own started (by kernel_rfl) Tryz.func5
    (ChangeSpec.witness_shaped (enc := enc) (C := Tryz.checked) (os := os) (X := fun w _ => laidMetH Tryz.prog Rows.admitKeysRow.laid w) false (World.laidAll Tryz.prog os Rows.admitKeysRow.laid) #[.string ⟨#[]⟩, .int .i64 0] 8 (World.laidAll_os _ _ _)
      (World.shaped_of_ZipB (by kernel_rfl) (by kernel_rfl)) (by kernel_rfl) (by kernel_rfl) (by kernel_rfl)
      (by rw[MakeChecks.laidMetH_plain _ _ _ Xs];exact laidMet_laidAll _ (by kernel_rfl) (by kernel_rfl))) ?_
  intro W base args ds gs before ajp Ub hW _ vQ hL _
  have Ad : ∀ (j : Nat) t v, Tryz.f5.params[j]? = some t -> args[j]? = some v -> Value.okWide Tryz.prog W .any base t v := Ub
  have hW' := hW
  obtain⟨p, q, hA0, hV, rfl, _, _⟩ := hW
  have hA : DataW.TrodAll enc Tryz.prog W 0 (fun _ => true) true Tryz.f5.params.toList args.toList ds p := hA0
  rw[Tryz.params5] at hA Ad
  obtain⟨v0, vs0, d0, ds0, p0, q0, lh, rfl, rfl, h0, r0⟩ := trodAll_cons hA
  obtain⟨v1, vs1, d1, ds1, p1, q1, rfl, rfl, rfl, h1, r1⟩ := trodAll_cons r0
  obtain⟨rfl, rfl, rfl⟩ := trodAll_nil r1
  obtain rfl : args = #[v0, v1] := by cases args;simp_all
  obtain⟨rfl, rfl⟩ := trodVars_none hV
  rw[MakeChecks.laidMetH_plain _ _ _ Xs] at hL
  have k0 := h0
  have lt0 : ∀ x ∈ p0, x.block<W.heap.size := by obtain⟨m, hm⟩ := k0;exact DataW.trod_lt m _ _ _ hm
  have k1 := h1
  have lt1 : ∀ x ∈ p1, x.block<W.heap.size := by obtain⟨m, hm⟩ := k1;exact DataW.trod_lt m _ _ _ hm
  have OX := Ad 0 9 v0 rfl rfl
  have xR := Ad 1 3 v1 rfl rfl
  clear hA0 Ub
  have a0 : K.KB enc Tryz.prog W 0 (fun _ => true) true .str 9 v0 := by
    obtain⟨f, hf⟩ := h0
    exact⟨(.str Tryz.underlying9), ⟨f, _, hf, fun k hk => of_decide_eq_true (adA.1 vQ k (K.KV (j := 0) (by kernel_rfl) rfl hk))⟩, (fun h => by cases h), (fun _ => by obtain⟨x1, rfl⟩ := okWide_string Tryz.underlying9 OX;rfl)⟩
  have a1 : K.KB enc Tryz.prog W 0 (fun _ => true) true (.int .i64) 3 v1 := by
    obtain⟨f, hf⟩ := h1
    exact⟨(.int Tryz.underlying3), ⟨f, _, hf, fun k hk => of_decide_eq_true (adA.1 vQ k (K.KV (j := 1) (by kernel_rfl) rfl hk))⟩, (fun h => by cases h), (fun _ => by obtain⟨x1, rfl⟩ := okWide_int Tryz.underlying3 xR;rfl)⟩
  refine (kb.acE Tryz.func5 rfl DfK.an DfK.anOK hL ajp (fun _ => rfl) (.cons a0 (.cons a1 .nil)) fun H aR ds h hT hn => DfK.keys_top h hT hn).mono fun e W' ⟨he, M0⟩ => ?_
  subst he
  exact⟨_, rfl, _, _, _, [], _, [], hW', trodAll_mk1 (shut_bool Tryz.underlying4 _), (trodAll_cons_mk (Below.trod laidOut (by kernel_rfl) (of_decide_eq_true (by kernel_rfl)) k0 M0 lt0) (trodAll_cons_mk (Below.trod laidOut (by kernel_rfl) (of_decide_eq_true (by kernel_rfl)) k1 M0 lt1) trodAll_mk0)), rfl, M0.frame _, fun h => by cases h⟩
theorem over : Rows.admitKeysRow.holds Tryz.pinned (OpenSpec.ofChange Rows.admitKeysSpec) :=
  OpenClaim.holds_of_wide 5 Tryz.f5 rfl rfl rfl rfl rfl rfl rfl ⟨rfl, rfl, rfl, rfl, rfl⟩ rfl rfl rfl rfl rfl (by kernel_rfl) Tryz.func5 (by kernel_rfl)
    (of_decide_eq_true (by kernel_rfl)) (by unfold Func.isWrapper;first | (rw[if_pos (by decide +kernel)];kernel_rfl) | (rw[if_neg (by decide +kernel)];exact⟨rfl, rfl⟩))
    (fun os started H enc _ => lifted os started H enc)
theorem adw : ∀ (j : Nat) t, Tryz.f5.params[j]? = some t -> Tryz.prog.wantsStandIn t = false := by
  intro j t ht
  rw[Tryz.params5] at ht
  cases j with
  | zero => cases ht;kernel_rfl
  | succ j =>
    cases j with
    | zero => cases ht;kernel_rfl
    | succ j =>
      simp at ht
theorem proved : Rows.AdmitKeysCardSaid :=
  Claim7.holds_tied_plain_at .later [] [.data, .data, .data, .data, .sentinel, .sentinel, .pinned] true (true, "3823f31e3f89b1fae9cd26b98caba47efd1dd045aa008ac3ea43e2c3d45e2763") true over (fun _ h => by cases h) (by kernel_rfl) (fun _ h => by cases h) admitKeys_row_tie rfl ⟨rfl, rfl⟩ (by kernel_rfl) rfl
    (fun f fn hf vW => by
      obtain rfl : f = 5 := acN ((show Tryz.prog.funcNamed "outrider/outriderlaw20.AdmitKeys" = some 5 by kernel_rfl).symm.trans hf) |>.symm
      obtain rfl : fn = Tryz.f5 := (acN (Tryz.func5.symm.trans vW)).symm
      exact⟨by kernel_rfl, adw⟩)
    (by kernel_rfl)
#print axioms proved
end Go.Proofs.YtodfajmihkagnaaGreatDoor.admitKeys
