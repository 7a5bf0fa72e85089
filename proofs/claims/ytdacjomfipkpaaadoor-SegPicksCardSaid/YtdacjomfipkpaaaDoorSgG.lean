/- frame.Get: contract over the symbolic heap. Conditions: as stated. -/
import Derived.Test.YtdacjomfipkpaaaDoorSgF
namespace Go.Proofs.YtdacjomfipkpaaaDoor.SgK
open Go Am Am.K SgEnv
set_option linter.unusedVariables false
set_option linter.unusedSimpArgs false
theorem st_all {H : Hp} {i n : Nat} {l cs : List AV} {el fl : Nat} {v : AV} (h : Cs H i l el fl) (hf : fl ≤ 1) (hv : cellsV v = some cs) (hl : cs.length = n) (hn : l.length = n) (ho : ∀ v ∈ cs, oneC v = true) :
    ∃ H', st n (.ptr i 0) v H = some H' ∧ Cs H' i cs el fl ∧ Out [i] H H' ∧ H'.next = H.next := by
  obtain ⟨hi, c, hc, hg⟩ := h
  obtain ⟨H', c', q1, q2, q3, q4, q5⟩ := setCells_get cs H i 0 c 0 l.length el fl hc hf (Nat.le_refl _) (by omega) (fun k hk => by
    have hk' : k < l.length := by omega
    rw [Nat.zero_add, hg k l[k] (List.getElem?_eq_getElem hk')]; rfl) ho
  refine ⟨H', ?_, ⟨by omega, c', ?_, fun k w hk => ?_⟩, ⟨by omega, fun j hj hn => q4 j (by simpa using hn)⟩, q2⟩
  · unfold st
    simp only [hv]
    rw [show Nat.beq n cs.length = true by rw [hl]; exact Nat.beq_refl n]
    exact q1
  · rw [q3, hl, hn]
  · rw [q5 k, if_pos ⟨Nat.zero_le _, by have := (List.getElem?_eq_some_iff.1 hk).1; omega⟩, Nat.sub_zero]
    exact hk
/-- what Get tells of bytes: the error, the length, the stamp, the payload -/
def gN (l : List Nat) : Nat := ud (l.take 4)
def gB (l : List Nat) : List Nat := (l.drop 16).take (gN l)
def gA (l : List Nat) : Nat := ud ((l.drop 4).take 8)
def gE (l : List Nat) : Nat :=
  if l.length < 4 then 3 else if 1024 < gN l then 14 else if l.length < 16 + gN l then 3 else
  if onS 1 (l.take 12 ++ gB l) ≠ ud ((l.drop 12).take 4) then 2 else 0
theorem one_rw {H : Hp} {es : Nat} {x : AV} {l : List AV} (h : Rw H es x l) : oneC x = true := by
  cases h <;> rfl
theorem bsd (a : Nat) (l : List Nat) : bs (l.drop a) = (bs l).drop a := by simp [bs, List.map_drop]
theorem bst (a : Nat) (l : List Nat) : bs (l.take a) = (bs l).take a := by simp [bs, List.map_take]
theorem cut_c {H : Hp} {x : AV} {l : List Nat} (hx : Rw H 1 x (bs l)) {a b : Nat} (hab : a ≤ b) (hb : b ≤ l.length) {lo hi : Option AV} (hlo : Bd lo a 0) (hhi : Bd hi b l.length) :
    ∃ x', sll 1 x lo hi none = some x' ∧ Rw H 1 x' (bs ((l.drop a).take (b - a))) := by
  obtain ⟨x', h1, h2, _⟩ := sll_rw hx (n := l.length) (by rw [bs_len, Nat.mul_one]) (by omega) hab hb hlo hhi
  refine ⟨x', h1, ?_⟩
  rw [Nat.mul_one, Nat.mul_one] at h2
  rw [bst, bsd]
  exact h2
theorem get_c {H : Hp} {x : AV} {l : List Nat} (hx : Rw H 1 x (bs l)) (hb : ∀ b ∈ l, b < 256) (hl : l.length ≤ 16000000) :
    ∃ y H', cK (.func (.func 28) [] []) [x] H = some (.tuple [.agg [.int .u64 ((if gE l = 0 then gA l else 0 : Nat) : Int), y], .int .i64 ((if gE l = 0 then 16 + gN l else 0 : Nat) : Int), .int .i64 ((gE l : Nat) : Int)], H') ∧
      Out [] H H' ∧ Ow H' 5 1 y (bs (if gE l = 0 then gB l else [])) ∧ (∀ j ∈ rid y, H.next ≤ j) := by
  obtain ⟨H1, n1, n2, n3, n4⟩ := newCells_ok H [.int .u64 0, .slice0] 48 0 (by simp)
  obtain ⟨H2, t1, t2, t3, t4⟩ := st_all (n := 2) n2 (by omega) (v := .agg [.int .u64 0, .slice0]) (cs := [.int .u64 0, .slice0]) rfl rfl rfl (by
    intro v hv
    rcases List.mem_cons.1 hv with rfl | hv
    · rfl
    · rcases List.mem_cons.1 hv with rfl | hv
      · rfl
      · cases hv)
  have t5 : lda 2 (.ptr H.next 0) H2 = some (.agg [.int .u64 0, .slice0]) := t2.lda (n := 2) (o := 0) (by simp)
  have o2 : Out [] H H2 := n3.then t3 fun j hj => by
    rw [List.mem_singleton] at hj
    exact .inr (by omega)
  have hx1 := hx.out n3 fun j _ q => by cases q
  have hn := hx.len1
  rw [bs_len] at hn
  have h30 : ¬ (3 : Nat) = 0 := by decide
  have h140 : ¬ (14 : Nat) = 0 := by decide
  have h20 : ¬ (2 : Nat) = 0 := by decide
  have sub : ∀ a b, ∀ v ∈ (l.drop a).take b, v < 256 := fun a b v hv => hb v (List.mem_of_mem_drop (List.mem_of_mem_take hv))
  by_cases c1 : l.length < 4
  · have ge : gE l = 3 := if_pos c1
    rw [ge, if_neg h30, if_neg h30, if_neg h30]
    refine ⟨.slice0, H2, c_frame_Get ?_, o2, .nil, fun j hj => by cases hj⟩
    unfold s_frame_Get
    have d1 : decide (((l.length : Nat) : Int) < 4) = true := decide_eq_true (by omega)
    simp only [n1, hn, d1, fl_nil, t1, t5, JN_0, JN_1, JN_2, JN_3, JN_4, JN_5, JN_6, JN_7, JN_8, JN_9, JN_10, JN_11, JN_12, JN_13, JN_14, JN_15, JN_16, JN_17, JN_18, JN_19, JN_20, JN_21, JN_22, JN_23, JN_24, B1_s, B2_s, BN_s, CD_t, CD_f, GO_tt, GO_ft, GO_tf, GO_ff, GO_ut, GO_uf, GD2_tt, GD2_ft, GD2_tf, GD2_ff, pk_t, pk_f, nilA_p, nilA_i, fa_p, fd_a, ex_t, iadd_i, isub_i, imul_i, ieq_i, ine_i, ilt_i, ile_i, igt_i, ige_i, seq_s, sne_s, slt_s, lens_s, lenx_0, lenx_s, not_b, bb_e, bb_n, cv_i, pe_00, pe_0p, pe_p0, eqB_e, eqB_n, List.getElem?_cons_zero, List.getElem?_cons_succ, Nat.zero_add, Bool.not_true, Bool.not_false, decide_true, decide_false, Int.reduceBEq, Int.reduceBNe, Int.reduceLT, Int.reduceLE, Int.reduceGT, Int.reduceGE, Int.reduceNeg, BEq.rfl, bne_self_eq_false, ge_iff_le, gt_iff_lt]
    rfl
  · have d1 : decide (((l.length : Nat) : Int) < 4) = false := decide_eq_false (by omega)
    obtain ⟨x4, u1, u2⟩ := cut_c hx1 (a := 0) (b := 4) (Nat.zero_le _) (by omega) (lo := none) (hi := some (.int .i64 ((4 : Nat) : Int))) (Bd.no 0) (Bd.yes _ _ _)
    have r4 := read_c u2 (sub _ _) (by simp; omega)
    have e4 : ud ((l.drop 0).take (4 - 0)) = gN l := rfl
    rw [e4] at r4
    have b4 : gN l < 4294967296 := by
      have := ud_lt (l.take 4) fun v hv => hb v (List.mem_of_mem_take hv)
      rw [List.length_take, Nat.min_eq_left (by omega)] at this
      exact this
    have w4 := w64 (a := gN l) (by omega)
    rw [show (((4 : Nat) : Int)) = 4 from rfl] at u1
    by_cases c2 : 1024 < gN l
    · have ge : gE l = 14 := by unfold gE; rw [if_neg c1, if_pos c2]
      rw [ge, if_neg h140, if_neg h140, if_neg h140]
      refine ⟨.slice0, H2, c_frame_Get ?_, o2, .nil, fun j hj => by cases hj⟩
      unfold s_frame_Get
      have d2 : decide (1024 < ((gN l : Nat) : Int)) = true := decide_eq_true (by omega)
      simp only [n1, hn, d1, u1, r4, w4, d2, fl_nil, t1, t5, JN_0, JN_1, JN_2, JN_3, JN_4, JN_5, JN_6, JN_7, JN_8, JN_9, JN_10, JN_11, JN_12, JN_13, JN_14, JN_15, JN_16, JN_17, JN_18, JN_19, JN_20, JN_21, JN_22, JN_23, JN_24, B1_s, B2_s, BN_s, CD_t, CD_f, GO_tt, GO_ft, GO_tf, GO_ff, GO_ut, GO_uf, GD2_tt, GD2_ft, GD2_tf, GD2_ff, pk_t, pk_f, nilA_p, nilA_i, fa_p, fd_a, ex_t, iadd_i, isub_i, imul_i, ieq_i, ine_i, ilt_i, ile_i, igt_i, ige_i, seq_s, sne_s, slt_s, lens_s, lenx_0, lenx_s, not_b, bb_e, bb_n, cv_i, pe_00, pe_0p, pe_p0, eqB_e, eqB_n, List.getElem?_cons_zero, List.getElem?_cons_succ, Nat.zero_add, Bool.not_true, Bool.not_false, decide_true, decide_false, Int.reduceBEq, Int.reduceBNe, Int.reduceLT, Int.reduceLE, Int.reduceGT, Int.reduceGE, Int.reduceNeg, BEq.rfl, bne_self_eq_false, ge_iff_le, gt_iff_lt]
      rfl
    · have d2 : decide (1024 < ((gN l : Nat) : Int)) = false := decide_eq_false (by omega)
      have a16 : IntKind.wrap .i64 (16 + ((gN l : Nat) : Int)) = ((16 + gN l : Nat) : Int) := by rw [wrap_i64 (by omega) (by omega)]; rfl
      by_cases c3 : l.length < 16 + gN l
      · have ge : gE l = 3 := by unfold gE; rw [if_neg c1, if_neg c2, if_pos c3]
        rw [ge, if_neg h30, if_neg h30, if_neg h30]
        refine ⟨.slice0, H2, c_frame_Get ?_, o2, .nil, fun j hj => by cases hj⟩
        unfold s_frame_Get
        have d3 : decide (((l.length : Nat) : Int) < ((16 + gN l : Nat) : Int)) = true := decide_eq_true (by omega)
        simp only [n1, hn, d1, u1, r4, w4, d2, a16, d3, fl_nil, t1, t5, JN_0, JN_1, JN_2, JN_3, JN_4, JN_5, JN_6, JN_7, JN_8, JN_9, JN_10, JN_11, JN_12, JN_13, JN_14, JN_15, JN_16, JN_17, JN_18, JN_19, JN_20, JN_21, JN_22, JN_23, JN_24, B1_s, B2_s, BN_s, CD_t, CD_f, GO_tt, GO_ft, GO_tf, GO_ff, GO_ut, GO_uf, GD2_tt, GD2_ft, GD2_tf, GD2_ff, pk_t, pk_f, nilA_p, nilA_i, fa_p, fd_a, ex_t, iadd_i, isub_i, imul_i, ieq_i, ine_i, ilt_i, ile_i, igt_i, ige_i, seq_s, sne_s, slt_s, lens_s, lenx_0, lenx_s, not_b, bb_e, bb_n, cv_i, pe_00, pe_0p, pe_p0, eqB_e, eqB_n, List.getElem?_cons_zero, List.getElem?_cons_succ, Nat.zero_add, Bool.not_true, Bool.not_false, decide_true, decide_false, Int.reduceBEq, Int.reduceBNe, Int.reduceLT, Int.reduceLE, Int.reduceGT, Int.reduceGE, Int.reduceNeg, BEq.rfl, bne_self_eq_false, ge_iff_le, gt_iff_lt]
        rfl
      · have d3 : decide (((l.length : Nat) : Int) < ((16 + gN l : Nat) : Int)) = false := decide_eq_false (by omega)
        obtain ⟨x12, p1, p2⟩ := cut_c hx1 (a := 0) (b := 12) (Nat.zero_le _) (by omega) (lo := none) (hi := some (.int .i64 ((12 : Nat) : Int))) (Bd.no 0) (Bd.yes _ _ _)
        obtain ⟨xb, q1, q2⟩ := cut_c hx1 (a := 16) (b := 16 + gN l) (by omega) (by omega) (lo := some (.int .i64 ((16 : Nat) : Int))) (hi := some (.int .i64 ((16 + gN l : Nat) : Int))) (Bd.yes _ _ _) (Bd.yes _ _ _)
        obtain ⟨xs, s1, s2⟩ := cut_c hx1 (a := 12) (b := 16) (by omega) (by omega) (lo := some (.int .i64 ((12 : Nat) : Int))) (hi := some (.int .i64 ((16 : Nat) : Int))) (Bd.yes _ _ _) (Bd.yes _ _ _)
        obtain ⟨xa, v1, v2⟩ := cut_c hx1 (a := 4) (b := 12) (by omega) (by omega) (lo := some (.int .i64 ((4 : Nat) : Int))) (hi := some (.int .i64 ((12 : Nat) : Int))) (Bd.yes _ _ _) (Bd.yes _ _ _)
        have eB : (l.drop 16).take (16 + gN l - 16) = gB l := by rw [Nat.add_sub_cancel_left]; rfl
        rw [eB] at q2
        have hB : ∀ v ∈ gB l, v < 256 := sub _ _
        have lB : (gB l).length = gN l := by unfold gB; rw [List.length_take, List.length_drop]; omega
        have f1 := of_c p2 (sub _ _) (by simp; omega)
        rw [show (l.drop 0).take (12 - 0) = l.take 12 from rfl] at f1
        have g1 := onS_lt (s := 1) (by decide) (l.take 12)
        have f2 := on_c q2 hB (by omega) g1.1 g1.2
        rw [onS_app (by decide)] at f2
        have g2 := onS_lt (s := 1) (by decide) (l.take 12 ++ gB l)
        have w2 : IntKind.wrap .u64 ((onS 1 (l.take 12 ++ gB l) : Nat) : Int) = ((onS 1 (l.take 12 ++ gB l) : Nat) : Int) := wrap_u rfl (Nat.lt_trans g2.1 (by decide))
        have f3 := read_c s2 (sub _ _) (by simp; omega)
        have f4 := read_c v2 (sub _ _) (by simp; omega)
        rw [show (l.drop 12).take (16 - 12) = (l.drop 12).take 4 from rfl] at f3
        rw [show ud ((l.drop 4).take (12 - 4)) = gA l from rfl] at f4
        rw [show (((12 : Nat) : Int)) = 12 from rfl] at p1 s1 v1
        rw [show (((16 : Nat) : Int)) = 16 from rfl] at q1 s1
        rw [show (((4 : Nat) : Int)) = 4 from rfl] at v1
        by_cases c4 : onS 1 (l.take 12 ++ gB l) ≠ ud ((l.drop 12).take 4)
        · have ge : gE l = 2 := by unfold gE; rw [if_neg c1, if_neg c2, if_neg c3, if_pos c4]
          rw [ge, if_neg h20, if_neg h20, if_neg h20]
          refine ⟨.slice0, H2, c_frame_Get ?_, o2, .nil, fun j hj => by cases hj⟩
          unfold s_frame_Get
          have d4 : (((onS 1 (l.take 12 ++ gB l) : Nat) : Int) != ((ud ((l.drop 12).take 4) : Nat) : Int)) = true := by rw [bne_iff_ne]; omega
          simp only [n1, hn, d1, u1, r4, w4, d2, a16, d3, p1, f1, q1, f2, SM_t (same_rw q2), w2, s1, f3, ine_i, d4, fl_nil, t1, t5, JN_0, JN_1, JN_2, JN_3, JN_4, JN_5, JN_6, JN_7, JN_8, JN_9, JN_10, JN_11, JN_12, JN_13, JN_14, JN_15, JN_16, JN_17, JN_18, JN_19, JN_20, JN_21, JN_22, JN_23, JN_24, B1_s, B2_s, BN_s, CD_t, CD_f, GO_tt, GO_ft, GO_tf, GO_ff, GO_ut, GO_uf, GD2_tt, GD2_ft, GD2_tf, GD2_ff, pk_t, pk_f, nilA_p, nilA_i, fa_p, fd_a, ex_t, iadd_i, isub_i, imul_i, ieq_i, ine_i, ilt_i, ile_i, igt_i, ige_i, seq_s, sne_s, slt_s, lens_s, lenx_0, lenx_s, not_b, bb_e, bb_n, cv_i, pe_00, pe_0p, pe_p0, eqB_e, eqB_n, List.getElem?_cons_zero, List.getElem?_cons_succ, Nat.zero_add, Bool.not_true, Bool.not_false, decide_true, decide_false, Int.reduceBEq, Int.reduceBNe, Int.reduceLT, Int.reduceLE, Int.reduceGT, Int.reduceGE, Int.reduceNeg, BEq.rfl, bne_self_eq_false, ge_iff_le, gt_iff_lt]
          rfl
        · have ge : gE l = 0 := by unfold gE; rw [if_neg c1, if_neg c2, if_neg c3, if_neg c4]
          rw [ge, if_pos rfl, if_pos rfl, if_pos rfl]
          have d4 : (((onS 1 (l.take 12 ++ gB l) : Nat) : Int) != ((ud ((l.drop 12).take 4) : Nat) : Int)) = false := by rw [bne_eq_false_iff_eq]; omega
          obtain ⟨y, H3, y1, y2, y3, y4⟩ := clone_c q2 (by omega)
          have n2' := n2.out y3 fun q => by cases q
          have y2c := cells_rw y2.rw
          obtain ⟨H4, z1, z2, z3, z4⟩ := st_all (n := 2) n2' (by omega) (cells_rec y2.rw ((gA l : Nat) : Int)) rfl rfl (by
            intro v hv
            rcases List.mem_cons.1 hv with rfl | hv
            · rfl
            · rcases List.mem_cons.1 hv with rfl | hv
              · exact one_rw y2.rw
              · cases hv)
          have z5 : lda 2 (.ptr H.next 0) H4 = some (.agg [.int .u64 ((gA l : Nat) : Int), y]) := z2.lda (n := 2) (o := 0) (by simp)
          have fl2 : fl [.int .u64 0, .slice0] [(0, 1, .int .u64 ((gA l : Nat) : Int)), (1, 1, y)] = some [.int .u64 ((gA l : Nat) : Int), y] := by
            have ci : cellsV (.int .u64 ((gA l : Nat) : Int)) = some [.int .u64 ((gA l : Nat) : Int)] := rfl
            simp [fl, y2c, ci]
          refine ⟨y, H4, c_frame_Get ?_, (n3.trans y3).then z3 fun j hj => by rw [List.mem_singleton] at hj; exact .inr (by omega), y2.out z3 fun j hj q => by
            rw [List.mem_singleton] at q
            have := y4 j hj
            omega, fun j hj => by have := y4 j hj; omega⟩
          unfold s_frame_Get
          simp only [n1, hn, d1, u1, r4, w4, d2, a16, d3, p1, f1, q1, f2, SM_t (same_rw q2), w2, s1, f3, ine_i, d4, v1, f4, y1, fl2, z1, z5, JN_0, JN_1, JN_2, JN_3, JN_4, JN_5, JN_6, JN_7, JN_8, JN_9, JN_10, JN_11, JN_12, JN_13, JN_14, JN_15, JN_16, JN_17, JN_18, JN_19, JN_20, JN_21, JN_22, JN_23, JN_24, B1_s, B2_s, BN_s, CD_t, CD_f, GO_tt, GO_ft, GO_tf, GO_ff, GO_ut, GO_uf, GD2_tt, GD2_ft, GD2_tf, GD2_ff, pk_t, pk_f, nilA_p, nilA_i, fa_p, fd_a, ex_t, iadd_i, isub_i, imul_i, ieq_i, ine_i, ilt_i, ile_i, igt_i, ige_i, seq_s, sne_s, slt_s, lens_s, lenx_0, lenx_s, not_b, bb_e, bb_n, cv_i, pe_00, pe_0p, pe_p0, eqB_e, eqB_n, List.getElem?_cons_zero, List.getElem?_cons_succ, Nat.zero_add, Bool.not_true, Bool.not_false, decide_true, decide_false, Int.reduceBEq, Int.reduceBNe, Int.reduceLT, Int.reduceLE, Int.reduceGT, Int.reduceGE, Int.reduceNeg, BEq.rfl, bne_self_eq_false, ge_iff_le, gt_iff_lt]
          rfl
end Go.Proofs.YtdacjomfipkpaaaDoor.SgK
