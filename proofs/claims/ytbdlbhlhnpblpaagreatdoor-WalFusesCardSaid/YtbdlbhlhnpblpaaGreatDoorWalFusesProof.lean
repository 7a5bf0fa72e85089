/- WalFuses: the law returns true for every input, and each argument reads afterwards as it read before. Conditions: the listed package-level variables hold what the program's text lays there (tied by the card). -/
import Derived.Test.YtbdlbhlhnpblpaaGreatDoorCards
import Derived.Test.YtbdlbhlhnpblpaaGreatDoorTie
import Derived.WalkKit
import Derived.ProofKit
import Derived.OpenShut
import Derived.Lay
import Derived.SevenTiedAt
import Derived.Test.YtbdlbhlhnpblpaaGreatDoorGtA
set_option maxRecDepth 100000
set_option linter.unusedVariables false
set_option linter.unusedSimpArgs false
namespace Go.Proofs.YtbdlbhlhnpblpaaGreatDoor.walFuses
open Go.ChangeShapes Go.WideShapes Go.ChangeAt Go.RowKit Am
theorem own : ownKnob Tryz.prog.godebug = none := by kernel_rfl
theorem laidOut : laidOutB Tryz.prog = true := by kernel_rfl
theorem aa7 : (Rows.walFusesRow.laid.all fun x => x.2.handleName?.isNone) = true := by kernel_rfl
theorem lifted (os : Os)(started : os.Started)(H : Type)(enc : TypeId × Value -> H) :
    ReturnsInHanded {} Tryz.checked os 5 .any (fun w args => (Rows.walFusesSpec.pre enc Tryz.prog Tryz.f5 [] false w args /\ laidMetH Tryz.prog Rows.walFusesRow.laid w) /\ sizedMet enc Tryz.prog Tryz.f5 (OpenSpec.ofChange Rows.walFusesSpec) false w args)
      (Rows.walFusesSpec.post enc Tryz.prog Tryz.f5 false true false false) := by
  refine Hand.handed (g := 7) (by kernel_rfl) (by kernel_rfl) (C := Tryz.checked) (X := fun w _ => laidMetH Tryz.prog Rows.walFusesRow.laid w) (fun _ _ _ hh h => h.of_heap hh) own started (by kernel_rfl) Tryz.func5
    (ChangeSpec.witness_shaped (enc := enc) (C := Tryz.checked) (os := os) (X := fun w _ => laidMetH Tryz.prog Rows.walFusesRow.laid w) false (World.laidAll Tryz.prog os Rows.walFusesRow.laid) #[.slice none 0 0, .int .i64 0, .slice none 0 0, .int .i64 0] 8 (World.laidAll_os _ _ _)
      (World.shaped_of_ZipB (by kernel_rfl) (by kernel_rfl)) (by kernel_rfl) (by kernel_rfl) (by kernel_rfl)
      (by rw[MakeChecks.laidMetH_plain _ _ _ aa7];exact laidMet_laidAll _ (by kernel_rfl) (by kernel_rfl))) ?_
  intro W base args ds gs before KW U5 hW _ qX hL _
  have nQ : ∀ (j : Nat) t v, Tryz.f5.params[j]? = some t -> args[j]? = some v -> Value.okWide Tryz.prog W .any base t v := U5
  have hW' := hW
  obtain⟨p, q, Vn, hV, rfl, _, _⟩ := hW
  have hA : DataW.TrodAll enc Tryz.prog W 0 (fun _ => true) true Tryz.f5.params.toList args.toList ds p := Vn
  rw[Tryz.params5] at hA nQ
  obtain⟨v0, vs0, d0, ds0, p0, q0, jy, rfl, rfl, h0, r0⟩ := trodAll_cons hA
  obtain⟨v1, vs1, d1, ds1, p1, q1, rfl, rfl, rfl, h1, r1⟩ := trodAll_cons r0
  obtain⟨v2, vs2, d2, ds2, p2, q2, rfl, rfl, rfl, h2, r2⟩ := trodAll_cons r1
  obtain⟨v3, vs3, d3, ds3, p3, q3, rfl, rfl, rfl, h3, r3⟩ := trodAll_cons r2
  obtain⟨rfl, rfl, rfl⟩ := trodAll_nil r3
  obtain rfl : args = #[v0, v1, v2, v3] := by cases args;simp_all
  obtain⟨rfl, rfl⟩ := trodVars_none hV
  rw[MakeChecks.laidMetH_plain _ _ _ aa7] at hL
  have k0 := h0
  have lt0 : ∀ x ∈ p0, x.block<W.heap.size := by obtain⟨m, hm⟩ := k0;exact DataW.trod_lt m _ _ _ hm
  have k1 := h1
  have lt1 : ∀ x ∈ p1, x.block<W.heap.size := by obtain⟨m, hm⟩ := k1;exact DataW.trod_lt m _ _ _ hm
  have k2 := h2
  have lt2 : ∀ x ∈ p2, x.block<W.heap.size := by obtain⟨m, hm⟩ := k2;exact DataW.trod_lt m _ _ _ hm
  have k3 := h3
  have lt3 : ∀ x ∈ p3, x.block<W.heap.size := by obtain⟨m, hm⟩ := k3;exact DataW.trod_lt m _ _ _ hm
  have Nu := nQ 0 48 v0 rfl rfl
  have ok1 := nQ 1 3 v1 rfl rfl
  have ok2 := nQ 2 49 v2 rfl rfl
  have ok3 := nQ 3 2 v3 rfl rfl
  clear Vn U5
  have a0 : K.Ci enc Tryz.prog W 0 (fun _ => true) true (.slice 4 (.struct 4 [(0, 1, (.int .i64)), (1, 1, (.int .i64)), (2, 1, (.slice 1 (.int .u8))), (3, 1, (.slice 1 (.int .i64)))])) 48 v0 := by
    obtain⟨f, hf⟩ := h0
    exact⟨(.slice Tryz.underlying48 (by kernel_rfl) (by decide) (.struct Tryz.underlying52 (by kernel_rfl) rfl ⟨rfl, rfl, rfl, rfl, rfl⟩ (K.yf ⟨rfl, by kernel_rfl⟩ (K.yf ⟨rfl, by kernel_rfl⟩ (K.yf ⟨rfl, by kernel_rfl⟩ (K.yf ⟨rfl, by kernel_rfl⟩ K.X1)))) (K.yf (.int Tryz.underlying3) (K.yf (.int Tryz.underlying2) (K.yf (.slice Tryz.underlying28 (by kernel_rfl) (by decide) (.int Tryz.underlying5)) (K.yf (.slice Tryz.underlying49 (by kernel_rfl) (by decide) (.int Tryz.underlying3)) K.X1)))))), ⟨f, _, hf, fun k hk => of_decide_eq_true (adh.1 qX k (K.CA (j := 0) (by kernel_rfl) rfl hk))⟩, (fun h => by cases h), (fun _ => by obtain⟨x1, x2, x3, rfl⟩ := okWide_slice Tryz.underlying48 Nu;rfl)⟩
  have a1 : K.Ci enc Tryz.prog W 0 (fun _ => true) true (.int .i64) 3 v1 := by
    obtain⟨f, hf⟩ := h1
    exact⟨(.int Tryz.underlying3), ⟨f, _, hf, fun k hk => of_decide_eq_true (adh.1 qX k (K.CA (j := 1) (by kernel_rfl) rfl hk))⟩, (fun h => by cases h), (fun _ => by obtain⟨x1, rfl⟩ := okWide_int Tryz.underlying3 ok1;rfl)⟩
  have a2 : K.Ci enc Tryz.prog W 0 (fun _ => true) true (.slice 1 (.int .i64)) 49 v2 := by
    obtain⟨f, hf⟩ := h2
    exact⟨(.slice Tryz.underlying49 (by kernel_rfl) (by decide) (.int Tryz.underlying3)), ⟨f, _, hf, fun k hk => of_decide_eq_true (adh.1 qX k (K.CA (j := 2) (by kernel_rfl) rfl hk))⟩, (fun h => by cases h), (fun _ => by obtain⟨x1, x2, x3, rfl⟩ := okWide_slice Tryz.underlying49 ok2;rfl)⟩
  have a3 : K.Ci enc Tryz.prog W 0 (fun _ => true) true (.int .i64) 2 v3 := by
    obtain⟨f, hf⟩ := h3
    exact⟨(.int Tryz.underlying2), ⟨f, _, hf, fun k hk => of_decide_eq_true (adh.1 qX k (K.CA (j := 3) (by kernel_rfl) rfl hk))⟩, (fun h => by cases h), (fun _ => by obtain⟨x1, rfl⟩ := okWide_int Tryz.underlying2 ok3;rfl)⟩
  refine (eU.akX dK.Bj Tryz.func5 rfl kf.an kf.HL hL KW (fun _ => rfl) (.cons a0 (.cons a1 (.cons a2 (.cons a3 .nil)))) fun H bV ds h hT hn => kf.agF h hT hn).mono fun e W' ⟨he, GL⟩ => ?_
  subst he
  exact⟨_, rfl, _, _, _, [], _, [], hW', trodAll_mk1 (shut_bool Tryz.underlying4 _), (trodAll_cons_mk (Below.trod laidOut (by kernel_rfl) (of_decide_eq_true (by kernel_rfl)) k0 GL lt0) (trodAll_cons_mk (Below.trod laidOut (by kernel_rfl) (of_decide_eq_true (by kernel_rfl)) k1 GL lt1) (trodAll_cons_mk (Below.trod laidOut (by kernel_rfl) (of_decide_eq_true (by kernel_rfl)) k2 GL lt2) (trodAll_cons_mk (Below.trod laidOut (by kernel_rfl) (of_decide_eq_true (by kernel_rfl)) k3 GL lt3) trodAll_mk0)))), rfl, GL.frame _, fun h => by cases h⟩
theorem over : Rows.walFusesRow.holds Tryz.pinned (OpenSpec.ofChange Rows.walFusesSpec) :=
  OpenClaim.holds_of_wide 5 Tryz.f5 rfl rfl rfl rfl rfl rfl rfl ⟨rfl, rfl, rfl, rfl, rfl⟩ rfl rfl rfl rfl rfl (by kernel_rfl) Tryz.func5 (by kernel_rfl)
    (of_decide_eq_true (by kernel_rfl)) (by unfold Func.isWrapper;first | (rw[if_pos (by decide +kernel)];kernel_rfl) | (rw[if_neg (by decide +kernel)];exact⟨rfl, rfl⟩))
    (fun os started H enc _ => lifted os started H enc)
theorem amp : ∀ (j : Nat) t, Tryz.f5.params[j]? = some t -> Tryz.prog.wantsStandIn t = false := by
  intro j t ht
  rw[Tryz.params5] at ht
  cases j with
  | zero => cases ht;kernel_rfl
  | succ j =>
    cases j with
    | zero => cases ht;kernel_rfl
    | succ j =>
      cases j with
      | zero => cases ht;kernel_rfl
      | succ j =>
        cases j with
        | zero => cases ht;kernel_rfl
        | succ j =>
          simp at ht
theorem proved : Rows.WalFusesCardSaid :=
  Claim7.holds_tied_plain_at .later [] [.data, .data, .data, .data, .sentinel, .sentinel, .pinned] true (true, "a8a1e6c0f368c85d871750e85f77b63a683443800c4c8ed225249fdd65d965f0") true over (fun _ h => by cases h) (by kernel_rfl) (fun _ h => by cases h) walFuses_row_tie rfl ⟨rfl, rfl⟩ (by kernel_rfl) rfl
    (fun f fn hf SN => by
      obtain rfl : f = 5 := ada ((show Tryz.prog.funcNamed "outrider/outriderlaw7.WalFuses" = some 5 by kernel_rfl).symm.trans hf) |>.symm
      obtain rfl : fn = Tryz.f5 := (ada (Tryz.func5.symm.trans SN)).symm
      exact⟨by kernel_rfl, amp⟩)
    (by kernel_rfl)
#print axioms proved
end Go.Proofs.YtbdlbhlhnpblpaaGreatDoor.walFuses
