/- slices.Sort, slices.Compact of numbers; seg.Pick: contracts over the symbolic heap. Conditions: as stated. -/
import Derived.Test.YtdacjomfipkpaaaDoorSgI
import Derived.Test.YtdacjomfipkpaaaDoorSgL1
namespace Go.Proofs.YtdacjomfipkpaaaDoor.SgK
open Go Am Am.K SgEnv Sg SegPrim SgN SegSort
set_option linter.unusedVariables false
set_option linter.unusedSimpArgs false
theorem nums_len (l : List Int) : (nums l).length = l.length := by simp [nums]
theorem nums_one (l : List Int) : ∀ v ∈ nums l, oneC v = true := by
  intro v hv
  obtain ⟨b, _, rfl⟩ := List.mem_map.1 hv
  rfl
theorem nums_app (a b : List Int) : nums (a ++ b) = nums a ++ nums b := by simp [nums]
theorem nums_get {l : List Int} {j : Nat} {z : Int} (h : l[j]? = some z) : (nums l)[j]? = some (.int .i64 z) := by simp [nums, h]
theorem sort_c {H : Hp} {x : AV} {zs : List Int} (hx : Ow H 2 1 x (nums zs)) (hl : zs.length ≤ 16777216) :
    ∃ H', cK (.func (.func 36) [] []) [x] H = some (.tuple [], H') ∧ Ow H' 2 1 x (nums (sortZ zs)) ∧ Out (rid x) H H' := by
  generalize hz : nums zs = l at hx
  cases hx with
  | nil =>
    have : zs = [] := by simpa [nums] using hz
    subst this
    refine ⟨H, ck_prim (p := sortP) (by kernel_rfl) ?_, ?_, Out.refl _ _⟩
    · rfl
    · simp [sortZ, nums]; exact .nil
  | @emp i off =>
    have : zs = [] := by simpa [nums] using hz
    subst this
    refine ⟨H, ck_prim (p := sortP) (by kernel_rfl) ?_, ?_, Out.refl _ _⟩
    · unfold sortP
      simp only [if_true]
    · simp [sortZ, nums]; exact .emp
  | @mk i off n cap ex _ c lo hi fl hi' hg hf hlo hhi hcap hn hc hs h1 he =>
    subst hz
    rw [nums_len, Nat.mul_one] at hn
    by_cases h0 : n = 0
    · subst h0
      have : zs = [] := List.length_eq_zero_iff.1 hn
      subst this
      refine ⟨H, ck_prim (p := sortP) (by kernel_rfl) ?_, ?_, Out.refl _ _⟩
      · unfold sortP
        simp only [if_true]
      · exact .mk hi' hg hf hlo hhi hcap (by simp [sortZ, nums]) (by simp [sortZ, nums]) hs (by simp [sortZ, nums]) he
    · have hsl := sortZ_len zs
      have hro : Ro H i off (nums zs) := ⟨hi', c, lo, hi, 2, fl, hg, hlo, by rw [nums_len]; omega, hc⟩
      have hcells := hro.cellsAt
      rw [nums_len, hn] at hcells
      have hbind : (Am.cellsAt H i off n).bind zsOf = some zs := by rw [hcells]; exact zsOf_nums zs
      have hrun : sortP [.slice i off n cap ex 1] H = some (.tuple [], { H with h := H.h.upd i (.cells (c.puts off (nums (sortZ zs))) lo hi 2 fl) }) := by
        unfold sortP
        simp only
        rw [if_neg h0, if_pos ⟨trivial, by omega⟩, hg, Option.bind_some]
        unfold sort2
        simp only
        rw [if_pos ⟨hlo, by omega, hf⟩, hbind]
        rfl
      have hget : ∀ j, (H.h.upd i (AO.cells (c.puts off (nums (sortZ zs))) lo hi 2 fl)).get j = if j = i then some (AO.cells (c.puts off (nums (sortZ zs))) lo hi 2 fl) else H.h.get j := fun j => Tr.get_upd _ _ _ _ (by rw [hg]; rfl)
      refine ⟨_, ck_prim (p := sortP) (by kernel_rfl) hrun, ?_, ⟨Nat.le_refl _, fun j hj hn' => ?_⟩⟩
      · refine .mk (c := c.puts off (nums (sortZ zs))) hi' ?_ hf hlo hhi hcap (by rw [nums_len]; omega) (fun k v hk => ?_) (fun k hk => ?_) (nums_one _) he
        · show (H.h.upd i _).get i = _
          rw [hget, if_pos rfl]
        · have hk' := (List.getElem?_eq_some_iff.1 hk).1
          rw [Tr.get_putsA, if_pos ⟨by omega, by omega⟩, Nat.add_sub_cancel_left]
          exact hk
        · rw [Tr.get_putsA]
          split
          · rename_i hin
            rw [List.getElem?_eq_getElem (by omega)]
            rfl
          · exact hs k hk
      · show (H.h.upd i _).get j = _
        rw [hget, if_neg (fun q => hn' (by subst q; rw [rid_s he]; exact .head _))]
/-- one cell of a row of our own is written -/
theorem ow_set {H : Hp} {el : Nat} {x : AV} {l : List AV} (h : Ow H el 1 x l) {j : Nat} (hj : j < l.length) {v : AV} (hv : oneC v = true) (hc : cellsV v = some [v]) :
    ∃ q H', (∀ k, ia 1 x (.int k j) = some q) ∧ st 1 q v H = some H' ∧ Ow H' el 1 x (l.set j v) ∧ Out (rid x) H H' ∧ H'.next = H.next := by
  cases h with
  | nil => simp at hj
  | emp => simp at hj
  | @mk i off n cap ex _ c lo hi fl hi' hg hf hlo hhi hcap hn hcc hs h1 he =>
    obtain ⟨H', c', q1, q2, q3, q4, q5⟩ := setCells_get [v] H i (off + j * 1) c lo hi el fl hg hf (by omega) (by simp only [List.length_cons, List.length_nil]; omega) (fun k hk => by
      simp only [List.length_cons, List.length_nil] at hk
      have := hs j (by omega)
      rw [show off + j * 1 + k = off + j by omega]
      exact this) (fun u hu => by rw [List.mem_singleton] at hu; subst hu; exact hv)
    simp only [List.length_cons, List.length_nil] at q5
    refine ⟨.ptr i (off + j * 1), H', fun k => ia_s (by omega), ?_, ?_, ⟨by omega, fun k hk hn' => q4 k fun e => hn' (by subst e; rw [rid_s he]; exact .head _)⟩, q2⟩
    · unfold st
      simp only [hc]
      exact q1
    · refine .mk (by omega) q3 hf hlo hhi hcap (by rw [List.length_set]; exact hn) (fun k w hk => ?_) (fun k hk => ?_) (fun w hw => ?_) he
      · rw [q5]
        rw [List.getElem?_set] at hk
        split at hk
        · rename_i e
          subst e
          rw [if_pos ⟨by omega, by omega⟩, show off + j - (off + j * 1) = 0 by omega]
          exact hk
        · rw [if_neg (by omega)]
          exact hcc k w hk
      · rw [q5]
        split
        · rename_i e
          rw [show off + k - (off + j * 1) = 0 by omega]
          rfl
        · exact hs k hk
      · rcases List.mem_or_eq_of_mem_set hw with hw | rfl
        · exact h1 w hw
        · exact hv
theorem builtin_clear (Q : Program) (t : Array TypeId) (x : AV) (H : Hp) : builtinA Q .clear t [x] H = (clearA Q t x H).map fun H => (undefA, H) := rfl
/-- what clear does behind a place -/
theorem clear_ok {H : Hp} {x : AV} {l : List AV} (h : Ow H 2 1 x l) (h0 : 0 < l.length) {k : Nat} (hk : k ≤ l.length) :
    ∃ y H', sll 1 x (some (.int .i64 (k : Nat))) none none = some y ∧ builtinA P .clear #[53] [y] H = some (undefA, H') ∧ Ow H' 2 1 x (l.take k ++ List.replicate (l.length - k) (.int .i64 0)) ∧ Out (rid x) H H' := by
  cases h with
  | nil => simp at h0
  | emp => simp at h0
  | @mk i off n cap ex _ c lo hi fl hi' hg hf hlo hhi hcap hn hcc hs h1 he =>
    have hb := sliceBnd_ok (len := n) (cap := cap) (a := k) (b := n) (lo := some (.int .i64 (k : Nat))) (hi := none) (by omega) (Nat.le_refl _) hcap (Bd.yes _ _ _) (Bd.no _)
    have hrl : (List.replicate (n - k) (AV.int .i64 0)).length = n - k := List.length_replicate
    obtain ⟨H', c', q1, q2, q3, q4, q5⟩ := setCells_get (List.replicate (n - k) (AV.int .i64 0)) H i (off + k * 1) c lo hi 2 fl hg hf (by omega) (by rw [hrl]; omega) (fun j hj => by
      rw [hrl] at hj
      have := hs (k + j) (by omega)
      rw [show off + k * 1 + j = off + (k + j) by omega]
      exact this) (fun u hu => by rw [List.eq_of_mem_replicate hu]; rfl)
    rw [hrl] at q5
    have hrep : ∀ m, rep m [AV.int .i64 0] = List.replicate m (AV.int .i64 0) := fun m => by
      induction m with
      | zero => rfl
      | succ m ih =>
        unfold rep at ih ⊢
        rw [List.replicate_succ, List.flatten_cons, ih, List.replicate_succ]
        rfl
    refine ⟨.slice i (off + k * 1) (n - k) (cap - k) (ex || false) 1, H', ?_, ?_, ?_, ⟨by omega, fun j hj hn' => q4 j fun e => hn' (by subst e; rw [rid_s he]; exact .head _)⟩⟩
    · unfold sll
      simp only [hb, Option.bind_some, if_true, Option.isSome_none]
    · rw [builtin_clear]
      have hz : zc P 2 = some [.int .i64 0] := by kernel_rfl
      have hu : P.underlying 53 = some (.slice 2) := Tryd.underlying53
      have : clearA P #[53] (.slice i (off + k * 1) (n - k) (cap - k) (ex || false) 1) H = setCells H i (off + k * 1) (rep (n - k) [.int .i64 0]) := by
        unfold clearA
        simp only [List.getElem?_toArray, List.getElem?_cons_zero, Option.bind_some, hu, hz]
      rw [this, hrep, q1]
      rfl
    · refine .mk (by omega) q3 hf hlo hhi hcap (by simp; omega) (fun j w hj => ?_) (fun j hj => ?_) (fun w hw => ?_) he
      · rw [q5]
        by_cases hjk : j < k
        · rw [List.getElem?_append_left (by rw [List.length_take]; omega), List.getElem?_take, if_pos hjk] at hj
          rw [if_neg (by omega)]
          exact hcc j w hj
        · rw [List.getElem?_append_right (by rw [List.length_take]; omega), List.length_take, Nat.min_eq_left hk] at hj
          have := (List.getElem?_eq_some_iff.1 hj).1
          rw [List.length_replicate] at this
          rw [if_pos ⟨by omega, by omega⟩, show off + j - (off + k * 1) = j - k by omega]
          rw [List.getElem?_replicate] at hj ⊢
          rw [if_pos (by omega)] at hj
          rw [if_pos (by omega)]
          exact hj
      · rw [q5]
        split
        · rw [List.getElem?_replicate, if_pos (by omega)]
          rfl
        · exact hs j hj
      · rcases List.mem_append.1 hw with hw | hw
        · exact h1 w (List.mem_of_mem_take hw)
        · rw [List.eq_of_mem_replicate hw]; rfl
/-- without neighbours alike -/
def gz : Int → List Int → List Int
  | _, [] => []
  | p, b :: r => if b = p then gz b r else b :: gz b r
def cmpZ : List Int → List Int
  | [] => []
  | a :: r => a :: gz a r
theorem gz_len : ∀ (p : Int) (r : List Int), (gz p r).length ≤ r.length
  | _, [] => Nat.le_refl _
  | p, b :: r => by
    have := gz_len b r
    unfold gz
    split <;> simp only [List.length_cons] <;> omega
theorem cmp_loop1 {j6 : K.Fn 1} {j14 : K.Fn 2} {n k0 : Nat} {x y : AV} (hn : n ≤ 16777216) (hyl : lenx y = some (.int .i64 ((n - k0 : Nat) : Int))) (hy : ∀ j, k0 + j < n → ia 1 y (.int .i64 (j : Nat)) = ia 1 x (.int .i64 ((k0 + j : Nat) : Int))) :
    ∀ (r : List Int) (m kk : Nat) (p : Int) (l : List Int) (H : Hp), l.length = n → m ≤ n → k0 < m → kk < m → l.drop (m - 1) = p :: r → Ow H 2 1 x (nums l) →
    ∃ l' H', (∀ k : K.Fn 2, l_slices_Compact___int64_int64_1 JN GO cK j6 j14 k x (.int .i64 (kk : Nat)) y (.int .i64 ((m - k0 : Nat) : Int)) H = k x (.int .i64 ((kk + (gz p r).length : Nat) : Int)) H') ∧ Ow H' 2 1 x (nums l') ∧ l'.length = n ∧ l'.take (kk + (gz p r).length) = l.take kk ++ gz p r ∧ Out (rid x) H H'
  | [], m, kk, p, l, H, hl, hm, h0, hkk, hd, hx => by
    have h1 := congrArg List.length hd
    rw [List.length_drop] at h1
    simp only [List.length_cons, List.length_nil] at h1
    have d : decide (((m - k0 : Nat) : Int) < ((n - k0 : Nat) : Int)) = false := decide_eq_false (by omega)
    refine ⟨l, H, fun k => ?_, hx, hl, by simp [gz], Out.refl _ _⟩
    rw [ql_slices_Compact___int64_int64_1]
    simp only [hyl, d, gz, List.length_nil, Nat.add_zero, JN_0, JN_1, JN_2, JN_3, JN_4, JN_5, JN_6, JN_7, JN_8, JN_9, JN_10, JN_11, JN_12, JN_13, JN_14, JN_15, JN_16, JN_17, JN_18, JN_19, JN_20, JN_21, JN_22, JN_23, JN_24, B1_s, B2_s, BN_s, CD_t, CD_f, GO_tt, GO_ft, GO_tf, GO_ff, GO_ut, GO_uf, GD2_tt, GD2_ft, GD2_tf, GD2_ff, pk_t, pk_f, nilA_p, nilA_i, fa_p, fd_a, ex_t, iadd_i, isub_i, imul_i, ieq_i, ine_i, ilt_i, ile_i, igt_i, ige_i, seq_s, sne_s, slt_s, lens_s, lenx_0, lenx_s, not_b, bb_e, bb_n, cv_i, pe_00, pe_0p, pe_p0, eqB_e, eqB_n, List.getElem?_cons_zero, List.getElem?_cons_succ, Nat.zero_add, Bool.not_true, Bool.not_false, decide_true, decide_false, Int.reduceBEq, Int.reduceBNe, Int.reduceLT, Int.reduceLE, Int.reduceGT, Int.reduceGE, Int.reduceNeg, BEq.rfl, bne_self_eq_false, ge_iff_le, gt_iff_lt]
  | b :: r, m, kk, p, l, H, hl, hm, h0, hkk, hd, hx => by
    obtain ⟨hp1, hp2, hp3⟩ := hd_drop hd
    rw [show m - 1 + 1 = m by omega] at hp3
    obtain ⟨hb1, hb2, hb3⟩ := hd_drop hp3
    have d : decide (((m - k0 : Nat) : Int) < ((n - k0 : Nat) : Int)) = true := decide_eq_true (by omega)
    obtain ⟨qb, u1, u2⟩ := hx.rw.ia1 (nums_get hb2) .i64
    obtain ⟨qp, u3, u4⟩ := hx.rw.ia1 (nums_get hp2) .i64
    have v1 := hy (m - k0) (by omega)
    rw [show k0 + (m - k0) = m by omega, u1] at v1
    have v2 := hy (m - k0 - 1) (by omega)
    rw [show k0 + (m - k0 - 1) = m - 1 by omega, u3] at v2
    have s1 : IntKind.wrap .i64 (((m - k0 : Nat) : Int) - 1) = ((m - k0 - 1 : Nat) : Int) := by rw [wrap_i64 (by omega) (by omega)]; omega
    have e1 : IntKind.wrap .i64 (((m - k0 : Nat) : Int) + 1) = ((m + 1 - k0 : Nat) : Int) := by rw [wrap_i64 (by omega) (by omega)]; omega
    by_cases hbp : b = p
    · subst hbp
      obtain ⟨l', H', i1, i2, i3, i4, i5⟩ := cmp_loop1 (j6 := j6) (j14 := j14) hn hyl hy r (m + 1) kk b l H hl (by omega) (by omega) (by omega) (by rw [Nat.add_sub_cancel]; exact hp3) hx
      have hg : gz b (b :: r) = gz b r := by rw [gz, if_pos rfl]
      rw [hg]
      refine ⟨l', H', fun k => ?_, i2, i3, i4, i5⟩
      have d2 : (b != b) = false := by simp
      rw [ql_slices_Compact___int64_int64_1]
      simp only [hyl, d, v1, u2, s1, v2, u4, d2, e1, i1, JN_0, JN_1, JN_2, JN_3, JN_4, JN_5, JN_6, JN_7, JN_8, JN_9, JN_10, JN_11, JN_12, JN_13, JN_14, JN_15, JN_16, JN_17, JN_18, JN_19, JN_20, JN_21, JN_22, JN_23, JN_24, B1_s, B2_s, BN_s, CD_t, CD_f, GO_tt, GO_ft, GO_tf, GO_ff, GO_ut, GO_uf, GD2_tt, GD2_ft, GD2_tf, GD2_ff, pk_t, pk_f, nilA_p, nilA_i, fa_p, fd_a, ex_t, iadd_i, isub_i, imul_i, ieq_i, ine_i, ilt_i, ile_i, igt_i, ige_i, seq_s, sne_s, slt_s, lens_s, lenx_0, lenx_s, not_b, bb_e, bb_n, cv_i, pe_00, pe_0p, pe_p0, eqB_e, eqB_n, List.getElem?_cons_zero, List.getElem?_cons_succ, Nat.zero_add, Bool.not_true, Bool.not_false, decide_true, decide_false, Int.reduceBEq, Int.reduceBNe, Int.reduceLT, Int.reduceLE, Int.reduceGT, Int.reduceGE, Int.reduceNeg, BEq.rfl, bne_self_eq_false, ge_iff_le, gt_iff_lt]
    · have d2 : (b != p) = true := by simp [hbp]
      obtain ⟨q, H1, w1, w2, w3, w4, w5⟩ := ow_set hx (j := kk) (by rw [nums_len]; omega) (v := .int .i64 b) rfl rfl
      have hset : (nums l).set kk (.int .i64 b) = nums (l.set kk b) := by simp [nums, List.map_set]
      rw [hset] at w3
      obtain ⟨l', H', i1, i2, i3, i4, i5⟩ := cmp_loop1 (j6 := j6) (j14 := j14) hn hyl hy r (m + 1) (kk + 1) b (l.set kk b) H1 (by rw [List.length_set]; exact hl) (by omega) (by omega) (by omega) (by rw [Nat.add_sub_cancel, List.drop_set_of_lt hkk]; exact hp3) w3
      have hg : gz p (b :: r) = b :: gz b r := by rw [gz, if_neg hbp]
      have e2 : IntKind.wrap .i64 (((kk : Nat) : Int) + 1) = ((kk + 1 : Nat) : Int) := by rw [wrap_i64 (by omega) (by omega)]; rfl
      have ht : (l.set kk b).take (kk + 1) = l.take kk ++ [b] := by
        rw [List.take_set, List.take_add_one, List.getElem?_eq_getElem (by omega)]
        have hlen : (l.take kk).length = kk := by rw [List.length_take]; omega
        rw [List.set_append_right _ _ (by omega), hlen, Nat.sub_self]
        rfl
      rw [hg, List.length_cons]
      refine ⟨l', H', fun k => ?_, i2, i3, ?_, w4.then i5 fun j hj => .inl hj⟩
      · rw [ql_slices_Compact___int64_int64_1]
        simp only [hyl, d, v1, u2, s1, v2, u4, d2, w1, w2, e2, e1, i1, JN_0, JN_1, JN_2, JN_3, JN_4, JN_5, JN_6, JN_7, JN_8, JN_9, JN_10, JN_11, JN_12, JN_13, JN_14, JN_15, JN_16, JN_17, JN_18, JN_19, JN_20, JN_21, JN_22, JN_23, JN_24, B1_s, B2_s, BN_s, CD_t, CD_f, GO_tt, GO_ft, GO_tf, GO_ff, GO_ut, GO_uf, GD2_tt, GD2_ft, GD2_tf, GD2_ff, pk_t, pk_f, nilA_p, nilA_i, fa_p, fd_a, ex_t, iadd_i, isub_i, imul_i, ieq_i, ine_i, ilt_i, ile_i, igt_i, ige_i, seq_s, sne_s, slt_s, lens_s, lenx_0, lenx_s, not_b, bb_e, bb_n, cv_i, pe_00, pe_0p, pe_p0, eqB_e, eqB_n, List.getElem?_cons_zero, List.getElem?_cons_succ, Nat.zero_add, Bool.not_true, Bool.not_false, decide_true, decide_false, Int.reduceBEq, Int.reduceBNe, Int.reduceLT, Int.reduceLE, Int.reduceGT, Int.reduceGE, Int.reduceNeg, BEq.rfl, bne_self_eq_false, ge_iff_le, gt_iff_lt]
        rw [show kk + 1 + (gz b r).length = kk + ((gz b r).length + 1) by omega]
      · rw [show kk + ((gz b r).length + 1) = kk + 1 + (gz b r).length by omega, i4, ht, List.append_assoc]
        rfl
theorem cmp_loop {x : AV} {zs : List Int} {H : Hp} (hn : zs.length ≤ 16777216) (hx : Ow H 2 1 x (nums zs)) : ∀ (r : List Int) (k : Nat) (p : Int), 0 < k → k ≤ zs.length → zs.drop (k - 1) = p :: r → cmpZ zs = zs.take k ++ gz p r →
    ∃ y H', l_slices_Compact___int64_int64_ JN GO cK (fun v h => some (v, h)) x (.int .i64 (k : Nat)) H = some (y, H') ∧ Ow H' 2 1 y (nums (cmpZ zs)) ∧ Out (rid x) H H' ∧ ∀ j ∈ rid y, j ∈ rid x
  | [], k, p, h0, hk, hd, hc => by
    have h1 := congrArg List.length hd
    rw [List.length_drop] at h1
    simp only [List.length_cons, List.length_nil] at h1
    have hkl : k = zs.length := by omega
    have hxl := hx.rw.len1
    rw [nums_len] at hxl
    have d : decide (((k : Nat) : Int) < ((zs.length : Nat) : Int)) = false := decide_eq_false (by omega)
    refine ⟨x, H, ?_, ?_, Out.refl _ _, fun j hj => hj⟩
    · rw [ql_slices_Compact___int64_int64_]
      simp only [hxl, d, JN_0, JN_1, JN_2, JN_3, JN_4, JN_5, JN_6, JN_7, JN_8, JN_9, JN_10, JN_11, JN_12, JN_13, JN_14, JN_15, JN_16, JN_17, JN_18, JN_19, JN_20, JN_21, JN_22, JN_23, JN_24, B1_s, B2_s, BN_s, CD_t, CD_f, GO_tt, GO_ft, GO_tf, GO_ff, GO_ut, GO_uf, GD2_tt, GD2_ft, GD2_tf, GD2_ff, pk_t, pk_f, nilA_p, nilA_i, fa_p, fd_a, ex_t, iadd_i, isub_i, imul_i, ieq_i, ine_i, ilt_i, ile_i, igt_i, ige_i, seq_s, sne_s, slt_s, lens_s, lenx_0, lenx_s, not_b, bb_e, bb_n, cv_i, pe_00, pe_0p, pe_p0, eqB_e, eqB_n, List.getElem?_cons_zero, List.getElem?_cons_succ, Nat.zero_add, Bool.not_true, Bool.not_false, decide_true, decide_false, Int.reduceBEq, Int.reduceBNe, Int.reduceLT, Int.reduceLE, Int.reduceGT, Int.reduceGE, Int.reduceNeg, BEq.rfl, bne_self_eq_false, ge_iff_le, gt_iff_lt]
    · rw [hc, gz, List.append_nil, List.take_of_length_le (by omega)]
      exact hx
  | b :: r, k, p, h0, hk, hd, hc => by
    obtain ⟨hp1, hp2, hp3⟩ := hd_drop hd
    rw [show k - 1 + 1 = k by omega] at hp3
    obtain ⟨hb1, hb2, hb3⟩ := hd_drop hp3
    have hxl := hx.rw.len1
    rw [nums_len] at hxl
    have d : decide (((k : Nat) : Int) < ((zs.length : Nat) : Int)) = true := decide_eq_true (by omega)
    obtain ⟨qb, u1, u2⟩ := hx.rw.ia1 (nums_get hb2) .i64
    obtain ⟨qp, u3, u4⟩ := hx.rw.ia1 (nums_get hp2) .i64
    have s1 : IntKind.wrap .i64 (((k : Nat) : Int) - 1) = ((k - 1 : Nat) : Int) := by rw [wrap_i64 (by omega) (by omega)]; omega
    have e1 : IntKind.wrap .i64 (((k : Nat) : Int) + 1) = ((k + 1 : Nat) : Int) := by rw [wrap_i64 (by omega) (by omega)]; rfl
    by_cases hbp : b = p
    · subst hbp
      have d2 : (b == b) = true := by simp
      have hg : gz b (b :: r) = gz b r := by rw [gz, if_pos rfl]
      rw [hg] at hc
      -- the part behind k
      have hsub : ∃ y, sll 1 x (some (.int .i64 (k : Nat))) none none = some y ∧ lenx y = some (.int .i64 ((zs.length - k : Nat) : Int)) ∧ ∀ j, k + j < zs.length → ia 1 y (.int .i64 (j : Nat)) = ia 1 x (.int .i64 ((k + j : Nat) : Int)) := by
        have hxx := hx
        generalize hz : nums zs = l at hxx
        have hll : l.length = zs.length := by rw [← hz, nums_len]
        cases hxx with
        | nil => simp at hll; omega
        | emp => simp at hll; omega
        | @mk i off n cap ex _ c lo hi fl hi' hg hf hlo hhi hcap hn' hcc hs h1 he =>
          have hnn : n = zs.length := by omega
          have hb := sliceBnd_ok (len := n) (cap := cap) (a := k) (b := n) (lo := some (.int .i64 (k : Nat))) (hi := none) (by omega) (Nat.le_refl _) hcap (Bd.yes _ _ _) (Bd.no _)
          refine ⟨.slice i (off + k * 1) (n - k) (cap - k) (ex || false) 1, ?_, ?_, fun j hj => ?_⟩
          · unfold sll
            simp only [hb, Option.bind_some, if_true, Option.isSome_none]
          · rw [lenx_s, hnn]
          · rw [ia_s (by omega), ia_s (by omega)]
            congr 2
            omega
      obtain ⟨y, y1, y2, y3⟩ := hsub
      obtain ⟨l', H1, i1, i2, i3, i4, i5⟩ := cmp_loop1 (j6 := fun v h => some (v, h)) (j14 := fun x84 x85 h86 => B1 (iadd x85 (.int .i64 1)) fun v90 => l_slices_Compact___int64_int64_ JN GO cK (fun v h => some (v, h)) x84 v90 h86) (x := x) (y := y) hn y2 y3 r (k + 1) k b zs H rfl (by omega) (by omega) (by omega) (by rw [Nat.add_sub_cancel]; exact hp3) hx
      rw [← hc] at i4
      have hgl := gz_len b r
      have hrl : r.length + (k + 1) = zs.length := by
        have := congrArg List.length hb3
        rw [List.length_drop] at this
        omega
      obtain ⟨y5, H2, c1, c2, c3, c4⟩ := clear_ok i2 (by rw [nums_len]; omega) (k := k + (gz b r).length) (by rw [nums_len]; omega)
      have hct : (nums l').take (k + (gz b r).length) = nums (cmpZ zs) := by rw [← i4]; simp [nums, List.map_take]
      rw [hct] at c3
      have hcl : (nums (cmpZ zs)).length = k + (gz b r).length := by rw [nums_len, ← i4, List.length_take]; omega
      obtain ⟨y6, t1, t2, t3⟩ := sll_ow (n := zs.length) (a := 0) (b := k + (gz b r).length) c3 (by rw [List.length_append, hcl, List.length_replicate, nums_len, i3]; omega) (by decide) (lo := none) (hi := some (.int .i64 ((k + (gz b r).length : Nat) : Int))) (Nat.zero_le _) (by omega) (Bd.no 0) (Bd.yes _ _ _)
      rw [Nat.zero_mul, List.drop_zero, Nat.sub_zero, Nat.mul_one, ← hcl, List.take_left' rfl] at t2
      have e11 : ((k + 1 - k : Nat) : Int) = 1 := by omega
      rw [e11] at i1
      refine ⟨y6, H2, ?_, t2, i5.then c4 fun j hj => .inl hj, t3⟩
      rw [ql_slices_Compact___int64_int64_]
      simp only [hxl, d, u1, u2, s1, u3, u4, d2, y1, i1, c1, c2, t1, JN_0, JN_1, JN_2, JN_3, JN_4, JN_5, JN_6, JN_7, JN_8, JN_9, JN_10, JN_11, JN_12, JN_13, JN_14, JN_15, JN_16, JN_17, JN_18, JN_19, JN_20, JN_21, JN_22, JN_23, JN_24, B1_s, B2_s, BN_s, CD_t, CD_f, GO_tt, GO_ft, GO_tf, GO_ff, GO_ut, GO_uf, GD2_tt, GD2_ft, GD2_tf, GD2_ff, pk_t, pk_f, nilA_p, nilA_i, fa_p, fd_a, ex_t, iadd_i, isub_i, imul_i, ieq_i, ine_i, ilt_i, ile_i, igt_i, ige_i, seq_s, sne_s, slt_s, lens_s, lenx_0, lenx_s, not_b, bb_e, bb_n, cv_i, pe_00, pe_0p, pe_p0, eqB_e, eqB_n, List.getElem?_cons_zero, List.getElem?_cons_succ, Nat.zero_add, Bool.not_true, Bool.not_false, decide_true, decide_false, Int.reduceBEq, Int.reduceBNe, Int.reduceLT, Int.reduceLE, Int.reduceGT, Int.reduceGE, Int.reduceNeg, BEq.rfl, bne_self_eq_false, ge_iff_le, gt_iff_lt]
    · have d2 : (b == p) = false := by simp [hbp]
      have hg : gz p (b :: r) = b :: gz b r := by rw [gz, if_neg hbp]
      obtain ⟨y, H', i1, i2, i3, i4⟩ := cmp_loop hn hx r (k + 1) b (by omega) (by omega) (by rw [Nat.add_sub_cancel]; exact hp3) (by rw [hc, hg, List.take_add_one, hb2]; simp)
      refine ⟨y, H', ?_, i2, i3, i4⟩
      rw [ql_slices_Compact___int64_int64_]
      simp only [hxl, d, u1, u2, s1, u3, u4, d2, e1, i1, JN_0, JN_1, JN_2, JN_3, JN_4, JN_5, JN_6, JN_7, JN_8, JN_9, JN_10, JN_11, JN_12, JN_13, JN_14, JN_15, JN_16, JN_17, JN_18, JN_19, JN_20, JN_21, JN_22, JN_23, JN_24, B1_s, B2_s, BN_s, CD_t, CD_f, GO_tt, GO_ft, GO_tf, GO_ff, GO_ut, GO_uf, GD2_tt, GD2_ft, GD2_tf, GD2_ff, pk_t, pk_f, nilA_p, nilA_i, fa_p, fd_a, ex_t, iadd_i, isub_i, imul_i, ieq_i, ine_i, ilt_i, ile_i, igt_i, ige_i, seq_s, sne_s, slt_s, lens_s, lenx_0, lenx_s, not_b, bb_e, bb_n, cv_i, pe_00, pe_0p, pe_p0, eqB_e, eqB_n, List.getElem?_cons_zero, List.getElem?_cons_succ, Nat.zero_add, Bool.not_true, Bool.not_false, decide_true, decide_false, Int.reduceBEq, Int.reduceBNe, Int.reduceLT, Int.reduceLE, Int.reduceGT, Int.reduceGE, Int.reduceNeg, BEq.rfl, bne_self_eq_false, ge_iff_le, gt_iff_lt]
theorem compact_c {H : Hp} {x : AV} {zs : List Int} (hx : Ow H 2 1 x (nums zs)) (hn : zs.length ≤ 16777216) :
    ∃ y H', cK (.func (.func 37) [] []) [x] H = some (y, H') ∧ Ow H' 2 1 y (nums (cmpZ zs)) ∧ Out (rid x) H H' ∧ ∀ j ∈ rid y, j ∈ rid x := by
  have hxl := hx.rw.len1
  rw [nums_len] at hxl
  by_cases h2 : zs.length < 2
  · have d : decide (((zs.length : Nat) : Int) < 2) = true := decide_eq_true (by omega)
    have hz : cmpZ zs = zs := by
      match zs, h2 with
      | [], _ => rfl
      | [a], _ => rfl
    refine ⟨x, H, c_slices_Compact___int64_int64_ ?_, by rw [hz]; exact hx, Out.refl _ _, fun j hj => hj⟩
    unfold s_slices_Compact___int64_int64_
    simp only [hxl, d, JN_0, JN_1, JN_2, JN_3, JN_4, JN_5, JN_6, JN_7, JN_8, JN_9, JN_10, JN_11, JN_12, JN_13, JN_14, JN_15, JN_16, JN_17, JN_18, JN_19, JN_20, JN_21, JN_22, JN_23, JN_24, B1_s, B2_s, BN_s, CD_t, CD_f, GO_tt, GO_ft, GO_tf, GO_ff, GO_ut, GO_uf, GD2_tt, GD2_ft, GD2_tf, GD2_ff, pk_t, pk_f, nilA_p, nilA_i, fa_p, fd_a, ex_t, iadd_i, isub_i, imul_i, ieq_i, ine_i, ilt_i, ile_i, igt_i, ige_i, seq_s, sne_s, slt_s, lens_s, lenx_0, lenx_s, not_b, bb_e, bb_n, cv_i, pe_00, pe_0p, pe_p0, eqB_e, eqB_n, List.getElem?_cons_zero, List.getElem?_cons_succ, Nat.zero_add, Bool.not_true, Bool.not_false, decide_true, decide_false, Int.reduceBEq, Int.reduceBNe, Int.reduceLT, Int.reduceLE, Int.reduceGT, Int.reduceGE, Int.reduceNeg, BEq.rfl, bne_self_eq_false, ge_iff_le, gt_iff_lt]
  · have d : decide (((zs.length : Nat) : Int) < 2) = false := decide_eq_false (by omega)
    obtain ⟨a, r, rfl⟩ : ∃ a r, zs = a :: r := by
      cases zs with
      | nil => simp at h2
      | cons a r => exact ⟨a, r, rfl⟩
    obtain ⟨y, H', i1, i2, i3, i4⟩ := cmp_loop hn hx r 1 a (by decide) (by omega) rfl rfl
    rw [show (((1 : Nat) : Int)) = 1 from rfl] at i1
    refine ⟨y, H', c_slices_Compact___int64_int64_ ?_, i2, i3, i4⟩
    unfold s_slices_Compact___int64_int64_
    simp only [hxl, d, JN_0, JN_1, JN_2, JN_3, JN_4, JN_5, JN_6, JN_7, JN_8, JN_9, JN_10, JN_11, JN_12, JN_13, JN_14, JN_15, JN_16, JN_17, JN_18, JN_19, JN_20, JN_21, JN_22, JN_23, JN_24, B1_s, B2_s, BN_s, CD_t, CD_f, GO_tt, GO_ft, GO_tf, GO_ff, GO_ut, GO_uf, GD2_tt, GD2_ft, GD2_tf, GD2_ff, pk_t, pk_f, nilA_p, nilA_i, fa_p, fd_a, ex_t, iadd_i, isub_i, imul_i, ieq_i, ine_i, ilt_i, ile_i, igt_i, ige_i, seq_s, sne_s, slt_s, lens_s, lenx_0, lenx_s, not_b, bb_e, bb_n, cv_i, pe_00, pe_0p, pe_p0, eqB_e, eqB_n, List.getElem?_cons_zero, List.getElem?_cons_succ, Nat.zero_add, Bool.not_true, Bool.not_false, decide_true, decide_false, Int.reduceBEq, Int.reduceBNe, Int.reduceLT, Int.reduceLE, Int.reduceGT, Int.reduceGE, Int.reduceNeg, BEq.rfl, bne_self_eq_false, ge_iff_le, gt_iff_lt]
    exact i1
end Go.Proofs.YtdacjomfipkpaaaDoor.SgK
