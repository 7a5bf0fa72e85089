/- StorePlays: the law, from whatever heap has the listed variables. Conditions: what the row's reading gives. -/
import Derived.Test.YtnabkcdchklnpaaDoorSpA
import Derived.Handed
import Derived.Test.YtnabkcdchklnpaaDoorProg
namespace Go.Proofs.YtnabkcdchklnpaaDoor.StP
open Go Am Am.K StEnv StK StC
set_option linter.unusedVariables false
set_option linter.unusedSimpArgs false
set_option maxRecDepth 10000
/-!  -/
theorem plays_top {H : Hp} {as' : List AV} {ds : List D} (h : ArgsIs H [.int .i64, .slice 6 ActTy] as' ds) (hT : hasT H begin0) (hn : 4 ≤ H.next) :
    ∃ H', cK (.func (.func 8) [] []) as' H = some (.bool true, H') := by
  cases h with
  | cons h0 h =>
  cases h with
  | cons h1 h =>
  cases h
  obtain ⟨room, rfl, hz⟩ := isA_int h0
  obtain ⟨l, hl⟩ := acts_of (isA_row h1)
  rename_i xl _ _
  have hA := awake_c an hT hn
  have l1 := hl.1.len (by decide)
  rw [List.length_map] at l1
  by_cases hb : room < 1 ∨ 16777216 < room
  · have n1 := (new_c H room).1 hb
    refine ⟨H, c_outriderlaw5_StorePlays ?_⟩
    unfold s_outriderlaw5_StorePlays
    by_cases h1 : room < 1
    · have e1 := decide_eq_true h1
      simp only [hA, n1, e1, k_s, k_x, Int.reduceBEq, Int.reduceBNe, Int.reduceLT, Int.reduceLE, Int.reduceGT, Int.reduceGE, Int.reduceNeg]
    · have e1 := decide_eq_false h1
      have e2 := decide_eq_true (show (16777216 : Int) < room by omega)
      simp only [hA, n1, e1, e2, k_s, k_x, Int.reduceBEq, Int.reduceBNe, Int.reduceLT, Int.reduceLE, Int.reduceGT, Int.reduceGE, Int.reduceNeg]
  · obtain ⟨k, rfl⟩ : ∃ k : Nat, room = k := ⟨room.toNat, by omega⟩
    obtain ⟨H1, p, L, n1, n2, n3, n4⟩ := (new_c H k).2 k rfl (by omega) (by omega)
    have e1 : decide ((k : Int) < 1) = false := decide_eq_false (by omega)
    have e2 : decide ((16777216 : Int) < (k : Int)) = false := decide_eq_false (by omega)
    by_cases h50 : (50 : Int) < (l.length : Nat)
    · have e3 := decide_eq_true h50
      refine ⟨H1, c_outriderlaw5_StorePlays ?_⟩
      unfold s_outriderlaw5_StorePlays
      simp only [hA, n1, e1, e2, l1, e3, k_s, k_x, Int.reduceBEq, Int.reduceBNe, Int.reduceLT, Int.reduceLE, Int.reduceGT, Int.reduceGE, Int.reduceNeg]
    · have e3 := decide_eq_false h50
      obtain ⟨H2, b1, b2, b3, b4⟩ := bx_ok H1 51 (.agg [.int .i64 (k : Nat), .slice0, .bool false, .int .i64 0, .slice0]) _ rfl (by simp)
      have f1 : fl [.int .i64 0, .slice0, .bool false, .int .i64 0, .slice0] [(0, 1, .int .i64 (k : Nat))] = some [.int .i64 (k : Nat), .slice0, .bool false, .int .i64 0, .slice0] := rfl
      have hlt := n2.lt
      have rs : RS H2 H1.next ⟨k, false, 0, [], []⟩ ⟨[], .slice0, .slice0⟩ := ⟨⟨_, b2⟩, OL.nil _ _ _, fun q hq => (by cases hq), .nil, rfl, fun z => (by cases z), fun j hj => (by cases hj), fun q hq => (by cases hq), (by show k ≤ 16777216; omega), (by show -9223372036854775808 ≤ (0 : Int) ∧ (0 : Int) ≤ 9223372036854775807; omega), Nat.zero_le _, fun f hf => (by cases hf)⟩
      have o12 : Out [] H H2 := n3.trans b3
      have pi : PI H H2 p H1.next ⟨k, false, 0, [], []⟩ ⟨k, false, 0, [], []⟩ L ⟨[], .slice0, .slice0⟩ := by
        refine ⟨o12, n2.out b3 fun _ _ z => (by cases z), rs, ⟨rfl, rfl, rfl, rfl, List.Perm.refl _, .nil, .nil, fun f hf => (by cases hf)⟩, n4, fun j hj => ?_, fun j hj z => ?_, Nat.zero_le _⟩
        · rcases rft_cases.1 hj with rfl | z | z | ⟨q, z, _⟩
          · exact n3.1
          · cases z
          · cases z
          · cases z
        · rcases rft_cases.1 z with rfl | z | z | ⟨q, z, _⟩
          · have := hlt _ hj; omega
          · cases z
          · cases z
          · cases z
      obtain ⟨G, hG⟩ := plays_loop hl (by omega) l.length 0 H2 _ _ _ _ (by omega) pi
      have z0 : ((0 : Nat) : Int) = 0 := rfl
      rw [z0] at hG
      refine ⟨G, c_outriderlaw5_StorePlays ?_⟩
      unfold s_outriderlaw5_StorePlays
      simp only [hA, n1, e1, e2, l1, e3, f1, b1, k_s, k_x, Int.reduceBEq, Int.reduceBNe, Int.reduceLT, Int.reduceLE, Int.reduceGT, Int.reduceGE, Int.reduceNeg]
      exact hG
end Go.Proofs.YtnabkcdchklnpaaDoor.StP
namespace Go.Proofs.YtnabkcdchklnpaaDoor.Hand
open Go
set_option linter.unusedVariables false

theorem size_open {P : Program} {w : World} (h : w.ShapedOpen P) {g : Nat} (hg : g + 1 = P.globals.size) (hr : (((begin P (fun _ _ => 0) default).world.heap[g]?).bind Obj.row?).isSome = true) : P.globals.size ≤ w.heap.size := by
  obtain ⟨⟨zero, t⟩, hr⟩ := Option.isSome_iff_exists.1 hr
  obtain ⟨cs, hc, _⟩ := h.1 g zero t (by omega) hr
  have := (Array.getElem?_eq_some_iff.1 hc).1
  omega

variable {H : Type} {enc : TypeId × Value → H}
theorem handed {a : Assume} {C : Checked} {os : Os} {f : FuncId} {fn : Func} {s : ChangeSpec} {conds : List PathCond} {apart fresh handsOn again : Bool} {X : World → Array Value → Prop} {g : Nat}
    (hg : g + 1 = C.prog.globals.size) (hr : (((begin C.prog (fun _ _ => 0) default).world.heap[g]?).bind Obj.row?).isSome = true)
    (hX : ∀ (w w' : World) (args : Array Value), w.heap = w'.heap → X w args → X w' args)
    (own : ownKnob C.prog.godebug = none) (started : os.Started) (noInit : C.prog.inits.idxOf? f = none) (hfn : C.prog.funcs[f]? = some fn)
    (witness : ∃ (w : World) (tape : Tape) (i : Input), w.os = os ∧ (w.forCall tape i).Shaped C.prog ∧ i.vars = [] ∧ Input.okWide C.prog (w.forCall tape i) .any w.heap.size f i ∧
      ((s.pre enc C.prog fn conds apart (w.forCall tape i).memory i.args ∧ X (w.forCall tape i).memory i.args) ∧ sizedMet enc C.prog fn (OpenSpec.ofChange s) apart (w.forCall tape i).memory i.args) ∧ a.holds C.prog (lone (Frame.enter C.prog f i.args .normal) [] (w.forCall tape i)))
    (contract : ∀ (W : World) (base : Nat) (args : Array Value) (ds gs : List (DataW H)) (before : List MemPlace), C.prog.globals.size ≤ W.heap.size →
      (∀ (j : Nat) t v, fn.params[j]? = some t → args[j]? = some v → Value.okWide C.prog W .any base t v) →
      DataW.Whole enc C.prog fn.params.toList s.vars apart W args.toList ds gs before →
      conds.all (PathCond.test C.prog ⟨fn.params.toList, ds, s.plain.varTypes C.prog, gs⟩) = true →
      (DataW.weightsEach C.prog (fn.params.toList ++ s.plain.varTypes C.prog) (ds ++ gs)).all (· ≤ reachBytes) = true → X W args →
      a.holds C.prog (lone (Frame.enter C.prog f args .normal) [] W) →
      Calls C.prog f args W fun e W' => ∃ v, e = .returned v ∧ s.post enc C.prog fn apart fresh handsOn again W args v W') :
    ReturnsInHanded a C os f .any (fun w args => (s.pre enc C.prog fn conds apart w args ∧ X w args) ∧ sizedMet enc C.prog fn (OpenSpec.ofChange s) apart w args) (s.post enc C.prog fn apart fresh handsOn again) :=
  returnsInHanded_of_calls own started noInit witness fun w tape i _ hsh _ hok hpre hholds => by
    obtain ⟨_, _, _, fn', hfn', _, _, _, _, hval⟩ := hok
    obtain rfl : fn' = fn := Option.some.inj (hfn'.symm.trans hfn)
    obtain ⟨⟨⟨ds, gs, before, hw, hc⟩, hx⟩, hz⟩ := hpre
    refine (contract (w.forCall tape i) w.heap.size i.args ds gs before (size_open hsh hg hr) hval (DataW.Whole.of_heap (w' := w.forCall tape i) (by rfl) hw) hc (hz.weights hw) (hX _ _ _ (by rfl) hx) hholds).mono fun e W' hp => ?_
    obtain ⟨v, rfl, hp⟩ := hp
    exact ChangeSpec.post_blind hp
end Go.Proofs.YtnabkcdchklnpaaDoor.Hand
