/- What package def does, as contracts over the symbolic heap: names, numbers, Good's tests, Graph, Good. Conditions: as each states them. -/
import Derived.Test.YthljbjokonglhaaGreatDoorDfC3
namespace Go.Proofs.YthljbjokonglhaaGreatDoor.DfK
open Go Am Am.K DfEnv DfM LibP DfG
set_option linter.unusedVariables false
set_option linter.unusedSimpArgs false
set_option maxRecDepth 10000
abbrev alN : Str := [97, 98, 99, 100, 101, 102, 103, 104, 105, 106, 107, 108, 109, 110, 111, 112, 113, 114, 115, 116, 117, 118, 119, 120, 121, 122, 48, 49, 50, 51, 52, 53, 54, 55, 56, 57]
/-- a name may be so -/
noncomputable def okN (s : Str) : Bool := !(s == []) && (decide ((s.length : Int) ≤ 16) && (trimN s alN == []))
theorem name_c (s : Str) (H : Hp) : cK (.func (.func 27) [] []) [.str s] H = some (.bool (okN s), H) := by
  refine c_def_Name ?_
  unfold s_def_Name okN
  cases h0 : (s == []) with
  | true => simp only [h0, Bool.not_true, Bool.false_and, k_s, k_x, Int.reduceBEq, Int.reduceBNe, Int.reduceLT, Int.reduceLE, Int.reduceGT, Int.reduceGE, Int.reduceNeg]
  | false =>
    by_cases h1 : (s.length : Int) ≤ 16
    · have ht := trim_c s alN H (by omega) (by decide) (by decide)
      simp only [h0, h1, ht, Bool.true_and, k_s, k_x, Int.reduceBEq, Int.reduceBNe, Int.reduceLT, Int.reduceLE, Int.reduceGT, Int.reduceGE, Int.reduceNeg]
    · simp only [h0, h1, Bool.true_and, Bool.false_and, k_s, k_x, Int.reduceBEq, Int.reduceBNe, Int.reduceLT, Int.reduceLE, Int.reduceGT, Int.reduceGE, Int.reduceNeg]
/-- a number of at most four digits, as it is written -/
noncomputable def numM (s : Str) : Option Nat := if s.length ≤ 4 then (match Lib.atoiAll (u8of s) with | .ok v => if dec v = s ∧ 0 ≤ v then some v.toNat else none | _ => none) else none
theorem ifn_f (T : Nat) (v : AV) (H : Hp) : gA P .eql 115 true (.iface T v) .nilIface = true ∧ binA P .eql 115 (.iface T v) .nilIface H = some (.bool false) := by
  have hu : ∃ m, P.underlying 115 = some (.interface m) := ⟨_, Tryz.underlying115⟩
  obtain ⟨m, hu⟩ := hu
  refine ⟨rfl, ?_⟩
  unfold binA eqA
  simp only [hu]; rfl
theorem ifn_t (H : Hp) : gA P .eql 115 true .nilIface .nilIface = true ∧ binA P .eql 115 .nilIface .nilIface H = some (.bool true) := by
  have hu : ∃ m, P.underlying 115 = some (.interface m) := ⟨_, Tryz.underlying115⟩
  obtain ⟨m, hu⟩ := hu
  refine ⟨rfl, ?_⟩
  unfold binA eqA
  simp only [hu]; rfl
theorem atoi_bnd {s : Str} (hs : s.length ≤ 4) {v : Int} (h : Lib.atoiAll (u8of s) = .ok v) : -9223372036854775808 ≤ v ∧ v ≤ 9223372036854775807 := by
  unfold Lib.atoiAll at h
  split at h
  · cases h
  · simp only at h
    split at h
    · cases h
    · cases h
    · split at h
      · cases h
      · split at h
        · cases h
        · injection h with h
          rename_i h1 h2
          split at h <;> omega
theorem number_c {s : Str} {H : Hp} (hg : Gl H) : ∃ n ok H', cK (.func (.func 94) [] []) [.str s] H = some (.tuple [.int .i64 n, .bool ok], H') ∧ (numM s = if ok then some n.toNat else none) ∧ (ok = true → 0 ≤ n) ∧ Out [] H H' := by
  by_cases hl : s.length ≤ 4
  · have d : decide ((4 : Int) < (s.length : Int)) = false := decide_eq_false (by omega)
    have ha := atoi_c (s := s) (by omega) hg
    have hnum : numM s = (match Lib.atoiAll (u8of s) with | .ok v => if dec v = s ∧ 0 ≤ v then some v.toNat else none | _ => none) := by unfold numM; rw [if_pos hl]
    unfold atoiR at ha
    cases hr : Lib.atoiAll (u8of s) with
    | ok v =>
      rw [hr] at ha hnum
      obtain ⟨b1, b2⟩ := atoi_bnd hl hr
      obtain ⟨H', i1, i2⟩ := itoa_c b1 b2 hg
      have hn := ifn_t H
      by_cases h1 : dec v = s
      · have e1 : (dec v == s) = true := by rw [h1]; simp
        refine ⟨v, decide (0 ≤ v), H', c_def_number ?_, ?_, fun q => by simpa using q, i2⟩
        · unfold s_def_number
          simp (disch := (first | assumption | omega | (simp only [k_d, k_c, Nat.reduceAdd, Nat.reduceLeDiff, Nat.reduceLT] <;> fail) | (simp only [k_c]; omega) | (simp only [k_d, k_c, Nat.reduceAdd, Nat.reduceLeDiff, Nat.reduceLT, *] <;> fail) | fail)) only [d, ha, hn.1, hn.2, IFT_t, i1, e1, k_a, k_b, Nat.reduceAdd, k_s, k_x, Int.reduceBEq, Int.reduceBNe, Int.reduceLT, Int.reduceLE, Int.reduceGT, Int.reduceGE, Int.reduceNeg]
        · rw [hnum]
          by_cases h0 : 0 ≤ v <;> simp [h1, h0]
      · have e1 : (dec v == s) = false := beq_false_of_ne h1
        refine ⟨v, false, H', c_def_number ?_, ?_, (fun q => by cases q), i2⟩
        · unfold s_def_number
          simp (disch := (first | assumption | omega | (simp only [k_d, k_c, Nat.reduceAdd, Nat.reduceLeDiff, Nat.reduceLT] <;> fail) | (simp only [k_c]; omega) | (simp only [k_d, k_c, Nat.reduceAdd, Nat.reduceLeDiff, Nat.reduceLT, *] <;> fail) | fail)) only [d, ha, hn.1, hn.2, IFT_t, i1, e1, k_a, k_b, Nat.reduceAdd, k_s, k_x, Int.reduceBEq, Int.reduceBNe, Int.reduceLT, Int.reduceLE, Int.reduceGT, Int.reduceGE, Int.reduceNeg]
        · rw [hnum]; simp [h1]
    | range =>
      rw [hr] at ha hnum
      have hn := ifn_f 186 .junk H
      refine ⟨Lib.atoiSat (u8of s), false, H, c_def_number ?_, by rw [hnum]; rfl, (fun q => by cases q), Out.refl _ _⟩
      unfold s_def_number
      simp (disch := (first | assumption | omega | (simp only [k_d, k_c, Nat.reduceAdd, Nat.reduceLeDiff, Nat.reduceLT] <;> fail) | (simp only [k_c]; omega) | (simp only [k_d, k_c, Nat.reduceAdd, Nat.reduceLeDiff, Nat.reduceLT, *] <;> fail) | fail)) only [d, ha, hn.1, hn.2, IFT_t, k_a, k_b, Nat.reduceAdd, k_s, k_x, Int.reduceBEq, Int.reduceBNe, Int.reduceLT, Int.reduceLE, Int.reduceGT, Int.reduceGE, Int.reduceNeg]
    | _ =>
      rw [hr] at ha hnum
      have hn := ifn_f 186 .junk H
      refine ⟨0, false, H, c_def_number ?_, by rw [hnum]; rfl, (fun q => by cases q), Out.refl _ _⟩
      unfold s_def_number
      simp (disch := (first | assumption | omega | (simp only [k_d, k_c, Nat.reduceAdd, Nat.reduceLeDiff, Nat.reduceLT] <;> fail) | (simp only [k_c]; omega) | (simp only [k_d, k_c, Nat.reduceAdd, Nat.reduceLeDiff, Nat.reduceLT, *] <;> fail) | fail)) only [d, ha, hn.1, hn.2, IFT_t, k_a, k_b, Nat.reduceAdd, k_s, k_x, Int.reduceBEq, Int.reduceBNe, Int.reduceLT, Int.reduceLE, Int.reduceGT, Int.reduceGE, Int.reduceNeg]
  · have d : decide ((4 : Int) < (s.length : Int)) = true := decide_eq_true (by omega)
    refine ⟨0, false, H, c_def_number ?_, by unfold numM; rw [if_neg hl]; rfl, (fun q => by cases q), Out.refl _ _⟩
    unfold s_def_number
    simp (disch := (first | assumption | omega | (simp only [k_d, k_c, Nat.reduceAdd, Nat.reduceLeDiff, Nat.reduceLT] <;> fail) | (simp only [k_c]; omega) | (simp only [k_d, k_c, Nat.reduceAdd, Nat.reduceLeDiff, Nat.reduceLT, *] <;> fail) | fail)) only [d, k_a, k_b, Nat.reduceAdd, k_s, k_x, Int.reduceBEq, Int.reduceBNe, Int.reduceLT, Int.reduceLE, Int.reduceGT, Int.reduceGE, Int.reduceNeg]
/-! tasks -/
structure Tk where
  name : Str
  after : List Int
  retry : Int
  wait : Int
  base : Int
  on : Str
  deriving DecidableEq
def tkC (t : Tk) (x : AV) : List AV := [.str t.name, x, .int .i64 t.retry, .int .i64 t.wait, .int .i64 t.base, .str t.on]
def fpD (dx : AV) (xs : List AV) : List Nat := rid dx ++ xs.flatMap rid
/-- a definition's row of tasks -/
structure RD (H : Hp) (dx : AV) (xs : List AV) (ts : List Tk) : Prop where
  len : xs.length = ts.length
  row : RL H 6 dx (List.zipWith tkC ts xs)
  aft : ∀ (i : Nat) (x : AV) (t : Tk), xs[i]? = some x → ts[i]? = some t → Rw H 1 x (ints t.after)
theorem RD.out {H H' : Hp} {dx : AV} {xs : List AV} {ts : List Tk} {S : List Nat} (h : RD H dx xs ts) (k : Out S H H') (hs : ∀ j ∈ fpD dx xs, j ∉ S) : RD H' dx xs ts :=
  ⟨h.len, h.row.out k fun j hj => hs j (List.mem_append_left _ hj), fun i x t hx ht => (h.aft i x t hx ht).out k fun j hj => hs j (List.mem_append_right _ (List.mem_flatMap.2 ⟨x, List.mem_of_getElem? hx, hj⟩))⟩
theorem RD.out0 {H H' : Hp} {dx : AV} {xs : List AV} {ts : List Tk} (h : RD H dx xs ts) (k : Out [] H H') : RD H' dx xs ts := h.out k fun _ _ q => by cases q
theorem RD.lt {H : Hp} {dx : AV} {xs : List AV} {ts : List Tk} (h : RD H dx xs ts) : ∀ j ∈ fpD dx xs, j < H.next := by
  intro j hj
  rcases List.mem_append.1 hj with hj | hj
  · exact h.row.1.lt j hj
  · obtain ⟨x, hx, hj⟩ := List.mem_flatMap.1 hj
    obtain ⟨i, hi⟩ := List.getElem?_of_mem hx
    have hit : i < ts.length := by rw [← h.len]; exact (List.getElem?_eq_some_iff.1 hi).1
    exact (h.aft i x _ hi (List.getElem?_eq_getElem hit)).lt j hj
theorem RD.at {H : Hp} {dx : AV} {xs : List AV} {ts : List Tk} (h : RD H dx xs ts) {i : Nat} {t : Tk} (ht : ts[i]? = some t) :
    ∃ x b o, xs[i]? = some x ∧ oneC x = true ∧ Rw H 1 x (ints t.after) ∧ (∀ k, ia 6 dx (.int k i) = some (.ptr b o)) ∧ b < H.next ∧ cellsAt H b o 6 = some (tkC t x) ∧ cellAt H b o = some (.str t.name) := by
  have hi := (List.getElem?_eq_some_iff.1 ht).1
  have hx : xs[i]? = some (xs[i]'(by rw [h.len]; exact hi)) := List.getElem?_eq_getElem _
  have hw := h.aft i _ t hx ht
  have hz : (List.zipWith tkC ts xs)[i]? = some (tkC t (xs[i]'(by rw [h.len]; exact hi))) := by rw [List.getElem?_zipWith, ht, hx]
  obtain ⟨b, o, h1, h2, h3, h4, h5⟩ := h.row.at (by decide) hz
  exact ⟨_, b, o, hx, hw.one, hw, h1, h3, h4, by have := h5 0 _ rfl; rw [Nat.add_zero] at this; exact this⟩
theorem RD.lenx {H : Hp} {dx : AV} {xs : List AV} {ts : List Tk} (h : RD H dx xs ts) : lenx dx = some (.int .i64 (ts.length : Nat)) := by
  have := h.row.len (by decide)
  rw [List.length_zipWith, h.len, Nat.min_self] at this
  exact this
abbrev dv (dx : AV) : AV := .agg [dx]
/-! Good's tests -/
noncomputable def odd1 (t : Tk) : Bool := !okN t.name || (!(t.on == []) && !okN t.on)
def odd3 (t : Tk) : Bool := !(decide (0 ≤ t.retry) && decide (t.retry ≤ 8)) || (!(decide (1 ≤ t.wait) && decide (t.wait ≤ 1000)) || !(decide (1 ≤ t.base) && decide (t.base ≤ 1000)))
theorem fd_tk (t : Tk) (x : AV) : (tkC t x)[0]? = some (.str t.name) ∧ (tkC t x)[1]? = some x ∧ (tkC t x)[2]? = some (.int .i64 t.retry) ∧ (tkC t x)[3]? = some (.int .i64 t.wait) ∧ (tkC t x)[4]? = some (.int .i64 t.base) ∧ (tkC t x)[5]? = some (.str t.on) := ⟨rfl, rfl, rfl, rfl, rfl, rfl⟩
theorem tk_len (t : Tk) (x : AV) : (tkC t x).length = 6 := rfl
theorem tk_take (t : Tk) (x : AV) : (tkC t x).take 6 = tkC t x := rfl
theorem bx_tk (t : Tk) (x : AV) (H : Hp) : bx 43 (.agg (tkC t x)) H = some (H.next, al H (tkC t x) 43 0) := bx_alA (by rw [tk_len]; omega)
theorem st_tk (t : Tk) (x : AV) (hx : oneC x = true) (H : Hp) : st 6 (.ptr H.next 0) (.agg (tkC t x)) (al H [(.str []), .slice0, (.int .i64 0), (.int .i64 0), (.int .i64 0), (.str [])] 43 0) = some (al H (tkC t x) 43 0) :=
  st_alN (by simp [tkC, oneC_s, oneC_i, hx]) rfl rfl (by decide) rfl
theorem good1_c (t : Tk) (x : AV) (i : Int) (H : Hp) : ∃ H', cK (.func (.func 33) [] []) [.int .i64 i, .agg (tkC t x)] H = some (.bool (odd1 t), H') ∧ Out [] H H' := by
  refine ⟨al H (tkC t x) 43 0, c_def_Good_1 ?_, al_out _ _ _ _⟩
  obtain ⟨e0, e1, e2, e3, e4, e5⟩ := fd_tk t x
  unfold s_def_Good_1 odd1
  cases h1 : okN t.name with
  | false => simp (disch := (first | assumption | omega | (simp only [k_d, k_c, Nat.reduceAdd, Nat.reduceLeDiff, Nat.reduceLT] <;> fail) | (simp only [k_c]; omega) | (simp only [k_d, k_c, Nat.reduceAdd, Nat.reduceLeDiff, Nat.reduceLT, *] <;> fail) | fail)) only [bx_tk, e0, e5, name_c, h1, Bool.not_false, Bool.true_or, k_a, k_b, Nat.reduceAdd, k_s, k_x, Int.reduceBEq, Int.reduceBNe, Int.reduceLT, Int.reduceLE, Int.reduceGT, Int.reduceGE, Int.reduceNeg]
  | true =>
    cases h2 : (t.on == []) with
    | true => simp (disch := (first | assumption | omega | (simp only [k_d, k_c, Nat.reduceAdd, Nat.reduceLeDiff, Nat.reduceLT] <;> fail) | (simp only [k_c]; omega) | (simp only [k_d, k_c, Nat.reduceAdd, Nat.reduceLeDiff, Nat.reduceLT, *] <;> fail) | fail)) only [bx_tk, e0, e5, name_c, h1, h2, Bool.not_true, Bool.false_or, Bool.false_and, k_a, k_b, Nat.reduceAdd, k_s, k_x, Int.reduceBEq, Int.reduceBNe, Int.reduceLT, Int.reduceLE, Int.reduceGT, Int.reduceGE, Int.reduceNeg]
    | false => simp (disch := (first | assumption | omega | (simp only [k_d, k_c, Nat.reduceAdd, Nat.reduceLeDiff, Nat.reduceLT] <;> fail) | (simp only [k_c]; omega) | (simp only [k_d, k_c, Nat.reduceAdd, Nat.reduceLeDiff, Nat.reduceLT, *] <;> fail) | fail)) only [bx_tk, e0, e5, name_c, h1, h2, Bool.not_true, Bool.not_false, Bool.false_or, Bool.true_and, k_a, k_b, Nat.reduceAdd, k_s, k_x, Int.reduceBEq, Int.reduceBNe, Int.reduceLT, Int.reduceLE, Int.reduceGT, Int.reduceGE, Int.reduceNeg]
theorem good3_c (t : Tk) (x : AV) (i : Int) (H : Hp) : ∃ H', cK (.func (.func 35) [] []) [.int .i64 i, .agg (tkC t x)] H = some (.bool (odd3 t), H') ∧ Out [] H H' := by
  refine ⟨al H (tkC t x) 43 0, c_def_Good_3 ?_, al_out _ _ _ _⟩
  obtain ⟨e0, e1, e2, e3, e4, e5⟩ := fd_tk t x
  unfold s_def_Good_3 odd3
  cases h1 : (decide (0 ≤ t.retry) && decide (t.retry ≤ 8)) with
  | false => simp (disch := (first | assumption | omega | (simp only [k_d, k_c, Nat.reduceAdd, Nat.reduceLeDiff, Nat.reduceLT] <;> fail) | (simp only [k_c]; omega) | (simp only [k_d, k_c, Nat.reduceAdd, Nat.reduceLeDiff, Nat.reduceLT, *] <;> fail) | fail)) only [bx_tk, e2, e3, e4, din_c, h1, Bool.not_false, Bool.true_or, k_a, k_b, Nat.reduceAdd, k_s, k_x, Int.reduceBEq, Int.reduceBNe, Int.reduceLT, Int.reduceLE, Int.reduceGT, Int.reduceGE, Int.reduceNeg]
  | true =>
    cases h2 : (decide (1 ≤ t.wait) && decide (t.wait ≤ 1000)) with
    | false => simp (disch := (first | assumption | omega | (simp only [k_d, k_c, Nat.reduceAdd, Nat.reduceLeDiff, Nat.reduceLT] <;> fail) | (simp only [k_c]; omega) | (simp only [k_d, k_c, Nat.reduceAdd, Nat.reduceLeDiff, Nat.reduceLT, *] <;> fail) | fail)) only [bx_tk, e2, e3, e4, din_c, h1, h2, Bool.not_true, Bool.not_false, Bool.false_or, Bool.true_or, k_a, k_b, Nat.reduceAdd, k_s, k_x, Int.reduceBEq, Int.reduceBNe, Int.reduceLT, Int.reduceLE, Int.reduceGT, Int.reduceGE, Int.reduceNeg]
    | true => simp (disch := (first | assumption | omega | (simp only [k_d, k_c, Nat.reduceAdd, Nat.reduceLeDiff, Nat.reduceLT] <;> fail) | (simp only [k_c]; omega) | (simp only [k_d, k_c, Nat.reduceAdd, Nat.reduceLeDiff, Nat.reduceLT, *] <;> fail) | fail)) only [bx_tk, e2, e3, e4, din_c, h1, h2, Bool.not_true, Bool.false_or, k_a, k_b, Nat.reduceAdd, k_s, k_x, Int.reduceBEq, Int.reduceBNe, Int.reduceLT, Int.reduceLE, Int.reduceGT, Int.reduceGE, Int.reduceNeg]
/-- a task may stand behind these -/
def aftG (n : Int) (i : Int) (pre : List Int) : List Int → Bool
  | [] => true
  | a :: l => (decide (0 ≤ a) && decide (a ≤ n - 1)) && (!(i == a) && (!(pre.any (fun b => a == b)) && aftG n i (pre ++ [a]) l))
theorem after_loop {dx : AV} {n : Nat} {l : List Int} {lx : AV} {g : Nat} {i : Int} (hn : n ≤ 100000) (hl : l.length ≤ 100000) (hdx : lenx dx = some (.int .i64 n)) : ∀ (r : List Int) (k : Nat) (H : Hp) (j4 : K.Fn 0), k ≤ l.length → l.drop k = r → Rw H 1 lx (ints l) → cellAt H g 0 = some dx →
    l__def_Def_after JN GO cK j4 (.int .i64 i) lx (.ptr g 0) lx (.int .i64 (l.length : Nat)) (.int .i64 (k : Nat)) H = if aftG n i (l.take k) r then j4 H else some (.bool false, H)
  | [], k, H, j4, hk, h, hlx, hg => by
    obtain rfl := drop_nil hk h
    rw [ql__def_Def_after]
    simp only [bl__def_Def_after, lt_f, aftG, if_true, k_s, k_x, Int.reduceBEq, Int.reduceBNe, Int.reduceLT, Int.reduceLE, Int.reduceGT, Int.reduceGE, Int.reduceNeg]
  | a :: r, k, H, j4, hk, h, hlx, hg => by
    obtain ⟨h1, h2, h3⟩ := hd_drop h
    obtain ⟨q, q1, q2⟩ := hlx.ia1 (ints_get h2) .i64
    have es := wrap_s h1 (by omega)
    have ih := after_loop (i := i) hn hl hdx r (k + 1) H j4 h1 h3 hlx hg
    have htk : l.take (k + 1) = l.take k ++ [a] := by rw [List.take_add_one, h2]; rfl
    rw [htk] at ih
    have e1 : IntKind.wrap .i64 ((n : Int) - 1) = (n : Int) - 1 := wrap_i64 (by omega) (by omega)
    obtain ⟨lx', s1, s2, s3⟩ := sll_rw (n := l.length) hlx (by rw [ints_len, Nat.mul_one]) (by decide) (a := 0) (b := k) (lo := none) (hi := some (.int .i64 (k : Nat))) (Nat.zero_le _) hk (Bd.no 0) (Bd.yes _ _ _)
    have hs2 : ((ints l).drop (0 * 1)).take ((k - 0) * 1) = ints (l.take k) := by simp [ints, List.map_take]
    rw [hs2] at s2
    have hct := containsint_c s2 (by rw [List.length_take]; omega) a
    rw [ql__def_Def_after]
    unfold aftG
    cases c1 : (decide (0 ≤ a) && decide (a ≤ (n : Int) - 1)) with
    | false => simp (disch := (first | assumption | omega | (simp only [k_d, k_c, Nat.reduceAdd, Nat.reduceLeDiff, Nat.reduceLT] <;> fail) | (simp only [k_c]; omega) | (simp only [k_d, k_c, Nat.reduceAdd, Nat.reduceLeDiff, Nat.reduceLT, *] <;> fail) | fail)) only [bl__def_Def_after, lt_t h1, q1, q2, hg, hdx, e1, din_c, c1, Bool.false_and, Bool.false_eq_true, if_false, k_a, k_b, Nat.reduceAdd, k_s, k_x, Int.reduceBEq, Int.reduceBNe, Int.reduceLT, Int.reduceLE, Int.reduceGT, Int.reduceGE, Int.reduceNeg]
    | true =>
      cases c2 : (a == i) with
      | true =>
        have c2' : (i == a) = true := by rw [beq_iff_eq] at c2 ⊢; exact c2.symm
        simp (disch := (first | assumption | omega | (simp only [k_d, k_c, Nat.reduceAdd, Nat.reduceLeDiff, Nat.reduceLT] <;> fail) | (simp only [k_c]; omega) | (simp only [k_d, k_c, Nat.reduceAdd, Nat.reduceLeDiff, Nat.reduceLT, *] <;> fail) | fail)) only [bl__def_Def_after, lt_t h1, q1, q2, hg, hdx, e1, din_c, c1, c2, c2', Bool.not_true, Bool.false_and, Bool.and_false, Bool.false_eq_true, if_false, k_a, k_b, Nat.reduceAdd, k_s, k_x, Int.reduceBEq, Int.reduceBNe, Int.reduceLT, Int.reduceLE, Int.reduceGT, Int.reduceGE, Int.reduceNeg]
      | false =>
        have c2' : (i == a) = false := by rw [← Bool.not_eq_true, beq_iff_eq] at c2 ⊢; exact fun e => c2 e.symm
        cases c3 : ((l.take k).any (fun b => a == b)) with
        | true => simp (disch := (first | assumption | omega | (simp only [k_d, k_c, Nat.reduceAdd, Nat.reduceLeDiff, Nat.reduceLT] <;> fail) | (simp only [k_c]; omega) | (simp only [k_d, k_c, Nat.reduceAdd, Nat.reduceLeDiff, Nat.reduceLT, *] <;> fail) | fail)) only [bl__def_Def_after, lt_t h1, q1, q2, hg, hdx, e1, din_c, c1, c2, c2', s1, hct, c3, Bool.not_true, Bool.not_false, Bool.false_and, Bool.and_false, Bool.true_and, Bool.false_eq_true, if_false, k_a, k_b, Nat.reduceAdd, k_s, k_x, Int.reduceBEq, Int.reduceBNe, Int.reduceLT, Int.reduceLE, Int.reduceGT, Int.reduceGE, Int.reduceNeg]
        | false => simp (disch := (first | assumption | omega | (simp only [k_d, k_c, Nat.reduceAdd, Nat.reduceLeDiff, Nat.reduceLT] <;> fail) | (simp only [k_c]; omega) | (simp only [k_d, k_c, Nat.reduceAdd, Nat.reduceLeDiff, Nat.reduceLT, *] <;> fail) | fail)) only [bl__def_Def_after, lt_t h1, q1, q2, hg, hdx, e1, din_c, c1, c2, c2', s1, hct, c3, es, ih, Bool.not_false, Bool.true_and, k_a, k_b, Nat.reduceAdd, k_s, k_x, Int.reduceBEq, Int.reduceBNe, Int.reduceLT, Int.reduceLE, Int.reduceGT, Int.reduceGE, Int.reduceNeg]
theorem after_c {dx : AV} {n : Nat} {l : List Int} {lx : AV} {i : Int} {H : Hp} (hn : n ≤ 100000) (hl : l.length ≤ 100000) (hdx : lenx dx = some (.int .i64 n)) (hd1 : oneC dx = true) (hlx : Rw H 1 lx (ints l)) :
    cK (.func (.func 37) [] []) [dv dx, .int .i64 i, lx] H = some (.bool (aftG n i [] l), al H [dx] 25 0) := by
  refine c__def_Def_after ?_
  have hll := hlx.len1
  rw [ints_len] at hll
  have h1 := fun j4 => after_loop (i := i) (g := H.next) hn hl hdx l 0 (al H [dx] 25 0) j4 (Nat.zero_le _) List.drop_zero (hlx.out0 (al_out _ _ _ _)) (cellAt_al rfl)
  rw [show (((0 : Nat) : Int)) = 0 from rfl, List.take_zero] at h1
  unfold s__def_Def_after
  simp (disch := (first | assumption | omega | (simp only [k_d, k_c, Nat.reduceAdd, Nat.reduceLeDiff, Nat.reduceLT] <;> fail) | (simp only [k_c]; omega) | (simp only [k_d, k_c, Nat.reduceAdd, Nat.reduceLeDiff, Nat.reduceLT, *] <;> fail) | fail)) only [hll, h1, k_a, k_b, Nat.reduceAdd, k_s, k_x, Int.reduceBEq, Int.reduceBNe, Int.reduceLT, Int.reduceLE, Int.reduceGT, Int.reduceGE, Int.reduceNeg]
  cases aftG n i [] l <;> rfl
theorem good4_c {dx : AV} {n p : Nat} {t : Tk} {x : AV} {i : Int} {H : Hp} (hn : n ≤ 100000) (hl : t.after.length ≤ 100000) (hdx : lenx dx = some (.int .i64 n)) (hd1 : oneC dx = true) (hp : cellAt H p 0 = some dx) (hpl : p < H.next) (hx : Rw H 1 x (ints t.after)) :
    ∃ H', cK (.func (.func 36) [] [.ptr p 0]) [.int .i64 i, .agg (tkC t x)] H = some (.bool (!aftG n i [] t.after), H') ∧ Out [] H H' := by
  have o1 := al_out H (tkC t x) 43 0
  have ha := after_c (i := i) hn hl hdx hd1 (hx.out0 o1)
  refine ⟨al (al H (tkC t x) 43 0) [dx] 25 0, c_def_Good_4 ?_, o1.trans (al_out _ _ _ _)⟩
  obtain ⟨e0, e1, e2, e3, e4, e5⟩ := fd_tk t x
  have hc : cellsAt H p 0 1 = some [dx] := by unfold cellsAt cellsAt; rw [hp]; rfl
  unfold s_def_Good_4
  simp (disch := (first | assumption | omega | (simp only [k_d, k_c, Nat.reduceAdd, Nat.reduceLeDiff, Nat.reduceLT] <;> fail) | (simp only [k_c]; omega) | (simp only [k_d, k_c, Nat.reduceAdd, Nat.reduceLeDiff, Nat.reduceLT, *] <;> fail) | fail)) only [bx_tk, hc, e1, ha, k_a, k_b, Nat.reduceAdd, k_s, k_x, Int.reduceBEq, Int.reduceBNe, Int.reduceLT, Int.reduceLE, Int.reduceGT, Int.reduceGE, Int.reduceNeg]
end Go.Proofs.YthljbjokonglhaaGreatDoor.DfK
