/- EngineEpochs by the evaluator: its run at every argument, joined of its parts. Conditions: what the row lists. -/
import Derived.Test.YtlomlkoimmpemaaGreatDoorEngineEpochsQ1
import Derived.Test.YtlomlkoimmpemaaGreatDoorEngineEpochsQ2
import Derived.Test.YtlomlkoimmpemaaGreatDoorEngineEpochsQ3
import Derived.Test.YtlomlkoimmpemaaGreatDoorEngineEpochsQ4
import Derived.Test.YtlomlkoimmpemaaGreatDoorEngineEpochsQ5
import Derived.Test.YtlomlkoimmpemaaGreatDoorEngineEpochsQ6
import Derived.Test.YtlomlkoimmpemaaGreatDoorEngineEpochsQ7
import Derived.Test.YtlomlkoimmpemaaGreatDoorEngineEpochsQ8
import Derived.Test.YtlomlkoimmpemaaGreatDoorEngineEpochsQ9
import Derived.Test.YtlomlkoimmpemaaGreatDoorEngineEpochsQ10
import Derived.Test.YtlomlkoimmpemaaGreatDoorEngineEpochsQ11
import Derived.Test.YtlomlkoimmpemaaGreatDoorEngineEpochsQ12
import Derived.Test.YtlomlkoimmpemaaGreatDoorEngineEpochsAlo0
import Derived.Test.YtlomlkoimmpemaaGreatDoorEngineEpochsAneg
import Derived.Test.YtlomlkoimmpemaaGreatDoorEngineEpochsAbig
import Derived.Test.YtlomlkoimmpemaaGreatDoorEngineEpochsAat1
import Derived.Test.YtlomlkoimmpemaaGreatDoorEngineEpochsAat2
import Derived.Test.YtlomlkoimmpemaaGreatDoorEngineEpochsAat3
import Derived.Test.YtlomlkoimmpemaaGreatDoorEngineEpochsAat4
import Derived.Test.YtlomlkoimmpemaaGreatDoorEngineEpochsAat5
import Derived.Test.YtlomlkoimmpemaaGreatDoorEngineEpochsAat6
import Derived.Test.YtlomlkoimmpemaaGreatDoorEngineEpochsAat7
import Derived.Test.YtlomlkoimmpemaaGreatDoorEngineEpochsAat8
namespace Go.Proofs.YtlomlkoimmpemaaGreatDoor.EngineEpochsRun
open Go Go.RowKit Am EkEnv
set_option linter.unusedVariables false
set_option maxRecDepth 100000
theorem m1 : MemoOK Tryz.prog begin0 memo1 := q1
theorem m2 : MemoOK Tryz.prog begin0 memo2 := q2 m1
theorem m3 : MemoOK Tryz.prog begin0 memo3 := q3 m1 m2
theorem m4 : MemoOK Tryz.prog begin0 memo4 := q4 m1 m2 m3
theorem m5 : MemoOK Tryz.prog begin0 memo5 := q5 m1 m2 m3 m4
theorem m6 : MemoOK Tryz.prog begin0 memo6 := q6 m1 m2 m3 m4 m5
theorem m7 : MemoOK Tryz.prog begin0 memo7 := q7 m1 m2 m3 m4 m5 m6
theorem m8 : MemoOK Tryz.prog begin0 memo8 := q8 m1 m2 m3 m4 m5 m6 m7
theorem m9 : MemoOK Tryz.prog begin0 memo9 := q9 m1 m2 m3 m4 m5 m6 m7 m8
theorem m10 : MemoOK Tryz.prog begin0 memo10 := q10 m1 m2 m3 m4 m5 m6 m7 m8 m9
theorem m11 : MemoOK Tryz.prog begin0 memo11 := q11 m1 m2 m3 m4 m5 m6 m7 m8 m9 m10
theorem m12 : MemoOK Tryz.prog begin0 memo12 := q12 m1 m2 m3 m4 m5 m6 m7 m8 m9 m10 m11
theorem closed_int {P : Program} {ext : Nat → Option Ext} {prim : Nat → Option Prim} (hm : P.follows .mixedOrders = true) (hN : NamesOK P) (hE : ExtOK P ext) (hP : PrimOK P prim) {fuel g : Nat} {fn : Func} {b : Code}
    (hf : P.funcs[g]? = some fn) (hb : fn.body = some b) {W : World} {e : Em} {H : Hp} {n : Int} (h : retTrue (callA P ext prim fuel g [.int .i64 n] H) = true) (hR : RH P.globals.size (fun k => k < W.heap.size) W e H W) :
    Calls P g #[.int .i64 n] W fun en w' => en = .returned (.bool true) ∧ Below W.heap.size W w' := by
  unfold retTrue at h
  split at h
  · rename_i H' hc
    refine (callA_sound hm hN hE hP hc hf hb hR (as' := #[.int .i64 n]) (VRL.cons (.int _ _) (.nil e))).mono fun en w' ⟨e', v', he, _, hR', hv⟩ => ?_
    have := hv.bool_inv
    subst this
    exact ⟨he, ⟨hR'.os, hR'.tape, hR'.output, hR'.size, fun k hk => (hR'.frame k hk).2⟩⟩
  · cases h
theorem at_int {W : World} (h : laidMet Tryz.prog laid W) (hsz : 8 ≤ W.heap.size) {n : Int} (hr : ∀ el : Nat → TypeId, F.endTrue (F.runF Tryz.prog ext pm12 60000 3 [.int .i64 n] ⟨layO el begin0, 11⟩) = true) : Calls Tryz.prog 3 #[.int .i64 n] W fun en w' => en = .returned (.bool true) ∧ Below W.heap.size W w' := by
  obtain ⟨e, hR, _, _⟩ := begins h hsz (fun _ => 0) (fun _ => 0) (fun _ => 0) (N := 11) (Nat.le_refl _) (PO := []) (fun i o hm => by cases hm)
  exact closed_int mixed namesOK extOK (pm12OK m1 m2 m3 m4 m5 m6 m7 m8 m9 m10 m11 m12) Tryz.func3 rfl (F.run_true (hr _)) hR
theorem known {W : World} (h : laidMet Tryz.prog laid W) (hsz : 8 ≤ W.heap.size) (n : Int) : Calls Tryz.prog 3 #[.int .i64 n] W fun en w' => en = .returned (.bool true) ∧ Below W.heap.size W w' := by
  refine at_int h hsz ?_
  match n with
  | .negSucc k => exact run_neg k
  | .ofNat 0 => exact run_lo0
  | .ofNat 1 => exact run_at1
  | .ofNat 2 => exact run_at2
  | .ofNat 3 => exact run_at3
  | .ofNat 4 => exact run_at4
  | .ofNat 5 => exact run_at5
  | .ofNat 6 => exact run_at6
  | .ofNat 7 => exact run_at7
  | .ofNat 8 => exact run_at8
  | .ofNat (k + 9) => exact run_big k
end Go.Proofs.YtlomlkoimmpemaaGreatDoor.EngineEpochsRun
