/- seg.Pick's contract; SegPicks over the symbolic heap. Conditions: what the listed variables hold. -/
import Derived.Test.YtdacjomfipkpaaaDoorSgW
namespace Go.Proofs.YtdacjomfipkpaaaDoor.SgK
open Go Am Am.K SgEnv Sg SegPrim SgN SegSort
set_option linter.unusedVariables false
set_option linter.unusedSimpArgs false
theorem begin_lt : ∀ g l, (g, l) ∈ begin0 → g < 9 := by
  have h : (begin0.all fun q => Nat.blt q.1 9) = true := by kernel_rfl
  intro g l hg
  have := List.all_eq_true.1 h (g, l) hg
  simpa using this
theorem hasT_out {H H' : Hp} (h : hasT H begin0) (hn : 9 ≤ H.next) (k : Out [] H H') : hasT H' begin0 := by
  obtain ⟨el, h⟩ := h
  refine ⟨el, fun g l hg => ?_⟩
  have := begin_lt g l hg
  rw [k.2 g (by omega) (fun q => by cases q)]
  exact h g l hg
def strs (l : List (List Nat)) : List AV := l.map AV.str
theorem strs_len (l : List (List Nat)) : (strs l).length = l.length := by simp [strs]
theorem strs_one (l : List (List Nat)) : ∀ v ∈ strs l, oneC v = true := by
  intro v hv
  obtain ⟨b, _, rfl⟩ := List.mem_map.1 hv
  rfl
theorem strs_app (a b : List (List Nat)) : strs (a ++ b) = strs a ++ strs b := by simp [strs]
theorem strs_get {l : List (List Nat)} {j : Nat} {z : List Nat} (h : l[j]? = some z) : (strs l)[j]? = some (.str z) := by simp [strs, h]
def pickL : List (List Nat) → List Int
  | [] => []
  | s :: r => if (sps s).2 = true then ((sps s).1 : Int) :: pickL r else pickL r
theorem pick_loop {H0 : Hp} {x : AV} {ns : List (List Nat)} (hx : Rw H0 1 x (strs ns)) (hT : hasT H0 begin0) (hn : 9 ≤ H0.next) (hl : ns.length ≤ 1000) (hs : ∀ s ∈ ns, s.length ≤ 281474976710656) : ∀ (r : List (List Nat)) (i : Nat) (s : AV) (A : List Int) (H : Hp), ns.drop i = r → i ≤ ns.length → Out [] H0 H → Ow H 2 1 s (nums A) → (∀ j ∈ rid s, H0.next ≤ j) → A.length ≤ i →
    ∃ s' H', (∀ k : K.Fn 1, l_seg_Pick JN GO cK k s x (.int .i64 (ns.length : Nat)) (.int .i64 (i : Nat)) H = k s' H') ∧ Out [] H0 H' ∧ Ow H' 2 1 s' (nums (A ++ pickL r)) ∧ (∀ j ∈ rid s', H0.next ≤ j) ∧ (A ++ pickL r).length ≤ ns.length
  | [], i, s, A, H, hr, hi, ho, hsl, hrd, hA => by
    have : ns.length ≤ i := by simpa using hr
    have d : decide (((i : Nat) : Int) < ((ns.length : Nat) : Int)) = false := decide_eq_false (by omega)
    refine ⟨s, H, fun k => ?_, ho, by simpa [pickL] using hsl, hrd, by simp [pickL]; omega⟩
    rw [ql_seg_Pick]
    simp only [d, JN_0, JN_1, JN_2, JN_3, JN_4, JN_5, JN_6, JN_7, JN_8, JN_9, JN_10, JN_11, JN_12, JN_13, JN_14, JN_15, JN_16, JN_17, JN_18, JN_19, JN_20, JN_21, JN_22, JN_23, JN_24, B1_s, B2_s, BN_s, CD_t, CD_f, GO_tt, GO_ft, GO_tf, GO_ff, GO_ut, GO_uf, GD2_tt, GD2_ft, GD2_tf, GD2_ff, pk_t, pk_f, nilA_p, nilA_i, fa_p, fd_a, ex_t, iadd_i, isub_i, imul_i, ieq_i, ine_i, ilt_i, ile_i, igt_i, ige_i, seq_s, sne_s, slt_s, lens_s, lenx_0, lenx_s, not_b, bb_e, bb_n, cv_i, pe_00, pe_0p, pe_p0, eqB_e, eqB_n, List.getElem?_cons_zero, List.getElem?_cons_succ, Nat.zero_add, Bool.not_true, Bool.not_false, decide_true, decide_false, Int.reduceBEq, Int.reduceBNe, Int.reduceLT, Int.reduceLE, Int.reduceGT, Int.reduceGE, Int.reduceNeg, BEq.rfl, bne_self_eq_false, ge_iff_le, gt_iff_lt]
  | c :: r, i, s, A, H, hr, hi, ho, hsl, hrd, hA => by
    obtain ⟨hi', hv, hr'⟩ := hd_drop hr
    have d : decide (((i : Nat) : Int) < ((ns.length : Nat) : Int)) = true := decide_eq_true (by omega)
    obtain ⟨q, u1, u2⟩ := (hx.out ho fun j _ q => by cases q).ia1 (strs_get hv) .i64
    have hp := parse_c an (vsA (hasT_out hT hn ho)) c (hs c (List.mem_of_getElem? hv))
    have e3 : IntKind.wrap .i64 (((i : Nat) : Int) + 1) = ((i + 1 : Nat) : Int) := by rw [wrap_i64 (by omega) (by omega)]; rfl
    by_cases hok : (sps c).2 = true
    · obtain ⟨H1, n1, n2, n3, n4⟩ := newCells_ok H [.int .i64 (((sps c).1 : Nat) : Int)] 2 0 (by simp)
      have hrow : Rw H1 1 (.slice H.next 0 1 1 true 1) (nums [(((sps c).1 : Nat) : Int)]) := .mk n2.ro rfl (Nat.le_refl _) rfl
      have hs1 := hsl.out n3 fun j _ q => by cases q
      obtain ⟨s', H2, a1, a2, a3, a4⟩ := append_ok (z := [.int .i64 0]) hs1 hrow (nums_one _) (by omega) (by rw [nums_len, nums_len]; simp; omega)
      rw [← nums_app] at a2
      have o2 : Out [] H0 H2 := (ho.trans n3).then a3 fun j hj => .inr (hrd j hj)
      have hrd2 : ∀ j ∈ rid s', H0.next ≤ j := fun j hj => (a4 j hj).elim (hrd j) fun q => Nat.le_trans (ho.trans n3).1 q
      obtain ⟨s2, H3, b1, b2, b3, b4, b5⟩ := pick_loop hx hT hn hl hs r (i + 1) s' _ H2 hr' (by omega) o2 a2 hrd2 (by simp; omega)
      have hpk : pickL (c :: r) = (((sps c).1 : Nat) : Int) :: pickL r := by rw [pickL, if_pos hok]
      rw [hpk]
      rw [List.append_assoc] at b3 b5
      refine ⟨s2, H3, fun k => ?_, b2, b3, b4, b5⟩
      have hf : fl [.int .i64 0] [(0, 1, AV.int .i64 (((sps c).1 : Nat) : Int))] = some [.int .i64 (((sps c).1 : Nat) : Int)] := rfl
      rw [ql_seg_Pick]
      rw [hok] at hp
      simp only [d, u1, u2, hp, hf, n1, a1, e3, b1, JN_0, JN_1, JN_2, JN_3, JN_4, JN_5, JN_6, JN_7, JN_8, JN_9, JN_10, JN_11, JN_12, JN_13, JN_14, JN_15, JN_16, JN_17, JN_18, JN_19, JN_20, JN_21, JN_22, JN_23, JN_24, B1_s, B2_s, BN_s, CD_t, CD_f, GO_tt, GO_ft, GO_tf, GO_ff, GO_ut, GO_uf, GD2_tt, GD2_ft, GD2_tf, GD2_ff, pk_t, pk_f, nilA_p, nilA_i, fa_p, fd_a, ex_t, iadd_i, isub_i, imul_i, ieq_i, ine_i, ilt_i, ile_i, igt_i, ige_i, seq_s, sne_s, slt_s, lens_s, lenx_0, lenx_s, not_b, bb_e, bb_n, cv_i, pe_00, pe_0p, pe_p0, eqB_e, eqB_n, List.getElem?_cons_zero, List.getElem?_cons_succ, Nat.zero_add, Bool.not_true, Bool.not_false, decide_true, decide_false, Int.reduceBEq, Int.reduceBNe, Int.reduceLT, Int.reduceLE, Int.reduceGT, Int.reduceGE, Int.reduceNeg, BEq.rfl, bne_self_eq_false, ge_iff_le, gt_iff_lt]
    · have hok' : (sps c).2 = false := by simpa using hok
      obtain ⟨s2, H3, b1, b2, b3, b4, b5⟩ := pick_loop hx hT hn hl hs r (i + 1) s _ H hr' (by omega) ho hsl hrd (by omega)
      have hpk : pickL (c :: r) = pickL r := by rw [pickL, if_neg hok]
      rw [hpk]
      refine ⟨s2, H3, fun k => ?_, b2, b3, b4, b5⟩
      rw [ql_seg_Pick]
      rw [hok'] at hp
      simp only [d, u1, u2, hp, e3, b1, JN_0, JN_1, JN_2, JN_3, JN_4, JN_5, JN_6, JN_7, JN_8, JN_9, JN_10, JN_11, JN_12, JN_13, JN_14, JN_15, JN_16, JN_17, JN_18, JN_19, JN_20, JN_21, JN_22, JN_23, JN_24, B1_s, B2_s, BN_s, CD_t, CD_f, GO_tt, GO_ft, GO_tf, GO_ff, GO_ut, GO_uf, GD2_tt, GD2_ft, GD2_tf, GD2_ff, pk_t, pk_f, nilA_p, nilA_i, fa_p, fd_a, ex_t, iadd_i, isub_i, imul_i, ieq_i, ine_i, ilt_i, ile_i, igt_i, ige_i, seq_s, sne_s, slt_s, lens_s, lenx_0, lenx_s, not_b, bb_e, bb_n, cv_i, pe_00, pe_0p, pe_p0, eqB_e, eqB_n, List.getElem?_cons_zero, List.getElem?_cons_succ, Nat.zero_add, Bool.not_true, Bool.not_false, decide_true, decide_false, Int.reduceBEq, Int.reduceBNe, Int.reduceLT, Int.reduceLE, Int.reduceGT, Int.reduceGE, Int.reduceNeg, BEq.rfl, bne_self_eq_false, ge_iff_le, gt_iff_lt]
def pickZ (ns : List (List Nat)) : List Int := cmpZ (sortZ (pickL ns))
theorem pick_c {H : Hp} {x : AV} {ns : List (List Nat)} (hx : Rw H 1 x (strs ns)) (hT : hasT H begin0) (hn : 9 ≤ H.next) (hl : ns.length ≤ 1000) (hs : ∀ s ∈ ns, s.length ≤ 281474976710656) :
    ∃ y H', cK (.func (.func 21) [] []) [x] H = some (y, H') ∧ Out [] H H' ∧ Ow H' 2 1 y (nums (pickZ ns)) := by
  have hxl := hx.len1
  rw [strs_len] at hxl
  obtain ⟨s, H1, a1, a2, a3, a4, a5⟩ := pick_loop hx hT hn hl hs ns 0 .slice0 [] H rfl (Nat.zero_le _) (Out.refl _ _) .nil (fun j hj => by cases hj) (Nat.le_refl _)
  rw [List.nil_append] at a3 a5
  rw [show (((0 : Nat) : Int)) = 0 from rfl] at a1
  obtain ⟨H2, b1, b2, b3⟩ := sort_c a3 (by omega)
  obtain ⟨y, H3, c1, c2, c3, c4⟩ := compact_c b2 (by rw [sortZ_len]; omega)
  refine ⟨y, H3, c_seg_Pick ?_, (a2.then b3 fun j hj => .inr (a4 j hj)).then c3 fun j hj => .inr (a4 j hj), c2⟩
  unfold s_seg_Pick
  simp only [hxl, a1, b1, c1, JN_0, JN_1, JN_2, JN_3, JN_4, JN_5, JN_6, JN_7, JN_8, JN_9, JN_10, JN_11, JN_12, JN_13, JN_14, JN_15, JN_16, JN_17, JN_18, JN_19, JN_20, JN_21, JN_22, JN_23, JN_24, B1_s, B2_s, BN_s, CD_t, CD_f, GO_tt, GO_ft, GO_tf, GO_ff, GO_ut, GO_uf, GD2_tt, GD2_ft, GD2_tf, GD2_ff, pk_t, pk_f, nilA_p, nilA_i, fa_p, fd_a, ex_t, iadd_i, isub_i, imul_i, ieq_i, ine_i, ilt_i, ile_i, igt_i, ige_i, seq_s, sne_s, slt_s, lens_s, lenx_0, lenx_s, not_b, bb_e, bb_n, cv_i, pe_00, pe_0p, pe_p0, eqB_e, eqB_n, List.getElem?_cons_zero, List.getElem?_cons_succ, Nat.zero_add, Bool.not_true, Bool.not_false, decide_true, decide_false, Int.reduceBEq, Int.reduceBNe, Int.reduceLT, Int.reduceLE, Int.reduceGT, Int.reduceGE, Int.reduceNeg, BEq.rfl, bne_self_eq_false, ge_iff_le, gt_iff_lt]
/-! plain: what is picked -/
theorem pickL_mem : ∀ (ns : List (List Nat)) (z : Int), z ∈ pickL ns ↔ ∃ s ∈ ns, (sps s).2 = true ∧ z = ((sps s).1 : Int)
  | [], z => by simp [pickL]
  | c :: r, z => by
    have ih := pickL_mem r z
    rw [pickL]
    split
    · rename_i h
      rw [List.mem_cons, ih]
      constructor
      · rintro (rfl | ⟨s, a, b⟩)
        · exact ⟨c, .head _, h, rfl⟩
        · exact ⟨s, .tail _ a, b⟩
      · rintro ⟨s, a, b, e⟩
        rcases List.mem_cons.1 a with rfl | a
        · exact .inl e
        · exact .inr ⟨s, a, b, e⟩
    · rename_i h
      rw [ih]
      constructor
      · rintro ⟨s, a, b⟩
        exact ⟨s, .tail _ a, b⟩
      · rintro ⟨s, a, b, e⟩
        rcases List.mem_cons.1 a with rfl | a
        · exact absurd b h
        · exact ⟨s, a, b, e⟩
theorem gz_mem : ∀ (p : Int) (r : List Int) (x : Int), x ∈ p :: gz p r ↔ x ∈ p :: r
  | p, [], x => by simp [gz]
  | p, b :: r, x => by
    have ih := gz_mem b r x
    rw [gz]
    split
    · rename_i h
      subst h
      rw [ih]
      simp
    · rw [List.mem_cons, ih]
      simp
theorem gz_lt : ∀ (p : Int) (r : List Int), (p :: r).Pairwise (fun a b => a ≤ b) → (p :: gz p r).Pairwise (fun a b => a < b)
  | p, [], _ => by simp [gz]
  | p, b :: r, h => by
    rw [List.pairwise_cons] at h
    have ih := gz_lt b r h.2
    rw [gz]
    split
    · rename_i e
      subst e
      exact ih
    · rename_i e
      rw [List.pairwise_cons]
      refine ⟨fun x hx => ?_, ih⟩
      have hx' := (gz_mem b r x).1 hx
      have h1 := h.1 b (.head _)
      rcases List.mem_cons.1 hx' with rfl | hx'
      · omega
      · have := (List.pairwise_cons.1 h.2).1 x hx'
        omega
theorem cmpZ_mem (l : List Int) (x : Int) : x ∈ cmpZ l ↔ x ∈ l := by
  cases l with
  | nil => rfl
  | cons a r => exact gz_mem a r x
theorem cmpZ_lt {l : List Int} (h : l.Pairwise (fun a b => a ≤ b)) : (cmpZ l).Pairwise (fun a b => a < b) := by
  cases l with
  | nil => exact .nil
  | cons a r => exact gz_lt a r h
theorem sortZ_sorted (l : List Int) : (sortZ l).Pairwise (fun a b => a ≤ b) := by
  have := List.pairwise_mergeSort (le := fun x y : Int => decide (x ≤ y)) (fun a b c h k => by simp at h k ⊢; omega) (fun a b => by simp; omega) l
  exact this.imp fun h => by simpa using h
theorem pickZ_lt (ns : List (List Nat)) : (pickZ ns).Pairwise (fun a b => a < b) := cmpZ_lt (sortZ_sorted _)
theorem pickZ_mem (ns : List (List Nat)) (z : Int) : z ∈ pickZ ns ↔ ∃ s ∈ ns, (sps s).2 = true ∧ z = ((sps s).1 : Int) := by
  unfold pickZ
  rw [cmpZ_mem, ← pickL_mem]
  exact (List.mergeSort_perm _ _).mem_iff
theorem map_back : ∀ l : List Nat, (∀ c ∈ l, c < 256) → (l.map UInt8.ofNat).map (·.toNat) = l
  | [], _ => rfl
  | c :: l, h => by
    have h1 : (UInt8.ofNat c).toNat = c := by
      rw [UInt8.toNat_ofNat']
      exact Nat.mod_eq_of_lt (h c (.head _))
    rw [List.map_cons, List.map_cons, map_back l fun x hx => h x (.tail _ hx), h1]
theorem pick_name {s : List Nat} (hb : ∀ c ∈ s, c < 256) (h : (sps s).2 = true) : inN ((sps s).1 : Int) = true ∧ nms ((sps s).1 : Int) = s := by
  obtain ⟨h1, h2⟩ := sp_true (l := s.map UInt8.ofNat) h
  have i1 : inN ((sps s).1 : Int) = true := inN_t (by omega) (by
    have : (sps s).1 < 2 ^ 44 := h1
    omega)
  refine ⟨i1, ?_⟩
  rw [nms_t i1, Int.toNat_natCast]
  show (nm (sp (s.map UInt8.ofNat)).1).map (·.toNat) = s
  rw [h2]
  exact map_back s hb
def addL : List Int → List (List Nat)
  | [] => []
  | a :: r => if inN a = true then nms a :: addL r else addL r
theorem addL_mem : ∀ (l : List Int) (a : Int), a ∈ l → inN a = true → nms a ∈ addL l
  | b :: r, a, h, k => by
    rw [addL]
    rcases List.mem_cons.1 h with rfl | h
    · rw [if_pos k]; exact .head _
    · have := addL_mem r a h k
      split
      · exact .tail _ this
      · exact this
theorem addL_ok : ∀ (l : List Int) (s : List Nat), s ∈ addL l → s.length = 14 ∧ ∀ c ∈ s, c < 256
  | b :: r, s, h => by
    rw [addL] at h
    split at h
    · rename_i k
      rcases List.mem_cons.1 h with rfl | h
      · refine ⟨nms_len k, fun c hc => ?_⟩
        rw [nms_t k] at hc
        obtain ⟨u, _, rfl⟩ := List.mem_map.1 hc
        exact u.toNat_lt
      · exact addL_ok r s h
    · exact addL_ok r s h
theorem addL_len : ∀ (l : List Int), (addL l).length ≤ l.length
  | [] => Nat.le_refl _
  | b :: r => by
    have := addL_len r
    rw [addL]
    split <;> simp only [List.length_cons] <;> omega
/-! the law's loops -/
theorem picks_loop {H0 : Hp} {x : AV} {zs : List Int} (hx : Rw H0 1 x (nums zs)) (hT : hasT H0 begin0) (hn : 9 ≤ H0.next) (hl : zs.length ≤ 20) : ∀ (r : List Int) (i : Nat) (s : AV) (A : List (List Nat)) (H : Hp), zs.drop i = r → i ≤ zs.length → Out [] H0 H → Ow H 9 1 s (strs A) → (∀ j ∈ rid s, H0.next ≤ j) → A.length ≤ 20 + i →
    ∃ s' H', (∀ k : K.Fn 2, l_outriderlaw6_SegPicks JN GO cK k x s (.int .i64 (i : Nat)) H = k x s' H') ∧ Out [] H0 H' ∧ Ow H' 9 1 s' (strs (A ++ addL r)) ∧ (∀ j ∈ rid s', H0.next ≤ j)
  | [], i, s, A, H, hr, hi, ho, hsl, hrd, hA => by
    have hxl := hx.len1
    rw [nums_len] at hxl
    have : zs.length ≤ i := by simpa using hr
    have d : decide (((i : Nat) : Int) < ((zs.length : Nat) : Int)) = false := decide_eq_false (by omega)
    refine ⟨s, H, fun k => ?_, ho, by simpa [addL] using hsl, hrd⟩
    rw [ql_outriderlaw6_SegPicks]
    simp only [hxl, d, JN_0, JN_1, JN_2, JN_3, JN_4, JN_5, JN_6, JN_7, JN_8, JN_9, JN_10, JN_11, JN_12, JN_13, JN_14, JN_15, JN_16, JN_17, JN_18, JN_19, JN_20, JN_21, JN_22, JN_23, JN_24, B1_s, B2_s, BN_s, CD_t, CD_f, GO_tt, GO_ft, GO_tf, GO_ff, GO_ut, GO_uf, GD2_tt, GD2_ft, GD2_tf, GD2_ff, pk_t, pk_f, nilA_p, nilA_i, fa_p, fd_a, ex_t, iadd_i, isub_i, imul_i, ieq_i, ine_i, ilt_i, ile_i, igt_i, ige_i, seq_s, sne_s, slt_s, lens_s, lenx_0, lenx_s, not_b, bb_e, bb_n, cv_i, pe_00, pe_0p, pe_p0, eqB_e, eqB_n, List.getElem?_cons_zero, List.getElem?_cons_succ, Nat.zero_add, Bool.not_true, Bool.not_false, decide_true, decide_false, Int.reduceBEq, Int.reduceBNe, Int.reduceLT, Int.reduceLE, Int.reduceGT, Int.reduceGE, Int.reduceNeg, BEq.rfl, bne_self_eq_false, ge_iff_le, gt_iff_lt]
  | c :: r, i, s, A, H, hr, hi, ho, hsl, hrd, hA => by
    have hxl := hx.len1
    rw [nums_len] at hxl
    obtain ⟨hi', hv, hr'⟩ := hd_drop hr
    have d : decide (((i : Nat) : Int) < ((zs.length : Nat) : Int)) = true := decide_eq_true (by omega)
    obtain ⟨q, u1, u2⟩ := (hx.out ho fun j _ q => by cases q).ia1 (nums_get hv) .i64
    have hp := name_c an (vsA (hasT_out hT hn ho)) c
    have e3 : IntKind.wrap .i64 (((i : Nat) : Int) + 1) = ((i + 1 : Nat) : Int) := by rw [wrap_i64 (by omega) (by omega)]; rfl
    by_cases hok : inN c = true
    · obtain ⟨H1, n1, n2, n3, n4⟩ := newCells_ok H [.str (nms c)] 9 0 (by simp)
      have hrow : Rw H1 1 (.slice H.next 0 1 1 true 1) (strs [nms c]) := .mk n2.ro rfl (Nat.le_refl _) rfl
      have hs1 := hsl.out n3 fun j _ q => by cases q
      obtain ⟨s', H2, a1, a2, a3, a4⟩ := append_ok (z := [.str []]) hs1 hrow (strs_one _) (by omega) (by rw [strs_len, strs_len]; simp; omega)
      rw [← strs_app] at a2
      have o2 : Out [] H0 H2 := (ho.trans n3).then a3 fun j hj => .inr (hrd j hj)
      have hrd2 : ∀ j ∈ rid s', H0.next ≤ j := fun j hj => (a4 j hj).elim (hrd j) fun q => Nat.le_trans (ho.trans n3).1 q
      obtain ⟨s2, H3, b1, b2, b3, b4⟩ := picks_loop hx hT hn hl r (i + 1) s' _ H2 hr' (by omega) o2 a2 hrd2 (by simp; omega)
      have hpk : addL (c :: r) = nms c :: addL r := by rw [addL, if_pos hok]
      rw [hpk]
      rw [List.append_assoc] at b3
      refine ⟨s2, H3, fun k => ?_, b2, b3, b4⟩
      have hf : fl [.str []] [(0, 1, AV.str (nms c))] = some [.str (nms c)] := rfl
      rw [ql_outriderlaw6_SegPicks]
      rw [hok] at hp
      simp only [hxl, d, u1, u2, hp, hf, n1, a1, e3, b1, JN_0, JN_1, JN_2, JN_3, JN_4, JN_5, JN_6, JN_7, JN_8, JN_9, JN_10, JN_11, JN_12, JN_13, JN_14, JN_15, JN_16, JN_17, JN_18, JN_19, JN_20, JN_21, JN_22, JN_23, JN_24, B1_s, B2_s, BN_s, CD_t, CD_f, GO_tt, GO_ft, GO_tf, GO_ff, GO_ut, GO_uf, GD2_tt, GD2_ft, GD2_tf, GD2_ff, pk_t, pk_f, nilA_p, nilA_i, fa_p, fd_a, ex_t, iadd_i, isub_i, imul_i, ieq_i, ine_i, ilt_i, ile_i, igt_i, ige_i, seq_s, sne_s, slt_s, lens_s, lenx_0, lenx_s, not_b, bb_e, bb_n, cv_i, pe_00, pe_0p, pe_p0, eqB_e, eqB_n, List.getElem?_cons_zero, List.getElem?_cons_succ, Nat.zero_add, Bool.not_true, Bool.not_false, decide_true, decide_false, Int.reduceBEq, Int.reduceBNe, Int.reduceLT, Int.reduceLE, Int.reduceGT, Int.reduceGE, Int.reduceNeg, BEq.rfl, bne_self_eq_false, ge_iff_le, gt_iff_lt]
    · have hok' : inN c = false := by simpa using hok
      obtain ⟨s2, H3, b1, b2, b3, b4⟩ := picks_loop hx hT hn hl r (i + 1) s _ H hr' (by omega) ho hsl hrd (by omega)
      have hpk : addL (c :: r) = addL r := by rw [addL, if_neg hok]
      rw [hpk]
      refine ⟨s2, H3, fun k => ?_, b2, b3, b4⟩
      rw [ql_outriderlaw6_SegPicks]
      rw [hok'] at hp
      simp only [hxl, d, u1, u2, hp, e3, b1, JN_0, JN_1, JN_2, JN_3, JN_4, JN_5, JN_6, JN_7, JN_8, JN_9, JN_10, JN_11, JN_12, JN_13, JN_14, JN_15, JN_16, JN_17, JN_18, JN_19, JN_20, JN_21, JN_22, JN_23, JN_24, B1_s, B2_s, BN_s, CD_t, CD_f, GO_tt, GO_ft, GO_tf, GO_ff, GO_ut, GO_uf, GD2_tt, GD2_ft, GD2_tf, GD2_ff, pk_t, pk_f, nilA_p, nilA_i, fa_p, fd_a, ex_t, iadd_i, isub_i, imul_i, ieq_i, ine_i, ilt_i, ile_i, igt_i, ige_i, seq_s, sne_s, slt_s, lens_s, lenx_0, lenx_s, not_b, bb_e, bb_n, cv_i, pe_00, pe_0p, pe_p0, eqB_e, eqB_n, List.getElem?_cons_zero, List.getElem?_cons_succ, Nat.zero_add, Bool.not_true, Bool.not_false, decide_true, decide_false, Int.reduceBEq, Int.reduceBNe, Int.reduceLT, Int.reduceLE, Int.reduceGT, Int.reduceGE, Int.reduceNeg, BEq.rfl, bne_self_eq_false, ge_iff_le, gt_iff_lt]
theorem picks_loop2 {j78 : K.Fn 2} {j88 : K.Fn 4} {k : K.Fn 6} {H : Hp} {x1 y x2 x3 x4 : AV} {s : List Nat} {ns : List (List Nat)} (hy : Rw H 1 y (strs ns)) (hl : ns.length ≤ 1000) : ∀ (r : List (List Nat)) (i : Nat) (t : Bool), ns.drop i = r →
    l_outriderlaw6_SegPicks2 JN GO cK j78 j88 k x1 y x2 x3 (.str s) x4 (.bool t) (.int .i64 (i : Nat)) H = k x1 y x2 x3 x4 (.bool (t || r.any (· == s))) H
  | [], i, t, hr => by
    have hxl := hy.len1
    rw [strs_len] at hxl
    have : ns.length ≤ i := by simpa using hr
    have d : decide (((i : Nat) : Int) < ((ns.length : Nat) : Int)) = false := decide_eq_false (by omega)
    rw [ql_outriderlaw6_SegPicks2]
    simp only [hxl, d, List.any_nil, Bool.or_false, JN_0, JN_1, JN_2, JN_3, JN_4, JN_5, JN_6, JN_7, JN_8, JN_9, JN_10, JN_11, JN_12, JN_13, JN_14, JN_15, JN_16, JN_17, JN_18, JN_19, JN_20, JN_21, JN_22, JN_23, JN_24, B1_s, B2_s, BN_s, CD_t, CD_f, GO_tt, GO_ft, GO_tf, GO_ff, GO_ut, GO_uf, GD2_tt, GD2_ft, GD2_tf, GD2_ff, pk_t, pk_f, nilA_p, nilA_i, fa_p, fd_a, ex_t, iadd_i, isub_i, imul_i, ieq_i, ine_i, ilt_i, ile_i, igt_i, ige_i, seq_s, sne_s, slt_s, lens_s, lenx_0, lenx_s, not_b, bb_e, bb_n, cv_i, pe_00, pe_0p, pe_p0, eqB_e, eqB_n, List.getElem?_cons_zero, List.getElem?_cons_succ, Nat.zero_add, Bool.not_true, Bool.not_false, decide_true, decide_false, Int.reduceBEq, Int.reduceBNe, Int.reduceLT, Int.reduceLE, Int.reduceGT, Int.reduceGE, Int.reduceNeg, BEq.rfl, bne_self_eq_false, ge_iff_le, gt_iff_lt]
  | c :: r, i, t, hr => by
    have hxl := hy.len1
    rw [strs_len] at hxl
    obtain ⟨hi', hv, hr'⟩ := hd_drop hr
    have d : decide (((i : Nat) : Int) < ((ns.length : Nat) : Int)) = true := decide_eq_true (by omega)
    obtain ⟨q, u1, u2⟩ := hy.ia1 (strs_get hv) .i64
    have e3 : IntKind.wrap .i64 (((i : Nat) : Int) + 1) = ((i + 1 : Nat) : Int) := by rw [wrap_i64 (by omega) (by omega)]; rfl
    have ih := fun t => picks_loop2 (j78 := j78) (j88 := j88) (k := k) (x1 := x1) (x2 := x2) (x3 := x3) (x4 := x4) (s := s) hy hl r (i + 1) t hr'
    rw [List.any_cons, ql_outriderlaw6_SegPicks2]
    cases t with
    | true =>
      simp only [hxl, d, e3, ih, Bool.true_or, JN_0, JN_1, JN_2, JN_3, JN_4, JN_5, JN_6, JN_7, JN_8, JN_9, JN_10, JN_11, JN_12, JN_13, JN_14, JN_15, JN_16, JN_17, JN_18, JN_19, JN_20, JN_21, JN_22, JN_23, JN_24, B1_s, B2_s, BN_s, CD_t, CD_f, GO_tt, GO_ft, GO_tf, GO_ff, GO_ut, GO_uf, GD2_tt, GD2_ft, GD2_tf, GD2_ff, pk_t, pk_f, nilA_p, nilA_i, fa_p, fd_a, ex_t, iadd_i, isub_i, imul_i, ieq_i, ine_i, ilt_i, ile_i, igt_i, ige_i, seq_s, sne_s, slt_s, lens_s, lenx_0, lenx_s, not_b, bb_e, bb_n, cv_i, pe_00, pe_0p, pe_p0, eqB_e, eqB_n, List.getElem?_cons_zero, List.getElem?_cons_succ, Nat.zero_add, Bool.not_true, Bool.not_false, decide_true, decide_false, Int.reduceBEq, Int.reduceBNe, Int.reduceLT, Int.reduceLE, Int.reduceGT, Int.reduceGE, Int.reduceNeg, BEq.rfl, bne_self_eq_false, ge_iff_le, gt_iff_lt]
    | false =>
      simp only [hxl, d, u1, u2, e3, ih, Bool.false_or, JN_0, JN_1, JN_2, JN_3, JN_4, JN_5, JN_6, JN_7, JN_8, JN_9, JN_10, JN_11, JN_12, JN_13, JN_14, JN_15, JN_16, JN_17, JN_18, JN_19, JN_20, JN_21, JN_22, JN_23, JN_24, B1_s, B2_s, BN_s, CD_t, CD_f, GO_tt, GO_ft, GO_tf, GO_ff, GO_ut, GO_uf, GD2_tt, GD2_ft, GD2_tf, GD2_ff, pk_t, pk_f, nilA_p, nilA_i, fa_p, fd_a, ex_t, iadd_i, isub_i, imul_i, ieq_i, ine_i, ilt_i, ile_i, igt_i, ige_i, seq_s, sne_s, slt_s, lens_s, lenx_0, lenx_s, not_b, bb_e, bb_n, cv_i, pe_00, pe_0p, pe_p0, eqB_e, eqB_n, List.getElem?_cons_zero, List.getElem?_cons_succ, Nat.zero_add, Bool.not_true, Bool.not_false, decide_true, decide_false, Int.reduceBEq, Int.reduceBNe, Int.reduceLT, Int.reduceLE, Int.reduceGT, Int.reduceGE, Int.reduceNeg, BEq.rfl, bne_self_eq_false, ge_iff_le, gt_iff_lt]
theorem picks_loop1 {H : Hp} {x y p : AV} {ns : List (List Nat)} {ps : List Int} (hT : hasT H begin0) (hn : 9 ≤ H.next) (hy : Rw H 1 y (strs ns)) (hl : ns.length ≤ 1000) (hp : Rw H 1 p (nums ps)) (hpl : ps.length ≤ 1000) (h1 : ∀ z ∈ ps, inN z = true ∧ nms z ∈ ns) (h2 : ps.Pairwise (fun a b => a < b)) (k : K.Fn 2) : ∀ (r : List Int) (i : Nat), ps.drop i = r →
    l_outriderlaw6_SegPicks1 JN GO cK k x y p (.int .i64 (i : Nat)) H = k x p H
  | [], i, hr => by
    have hxl := hp.len1
    rw [nums_len] at hxl
    have : ps.length ≤ i := by simpa using hr
    have d : decide (((i : Nat) : Int) < ((ps.length : Nat) : Int)) = false := decide_eq_false (by omega)
    rw [ql_outriderlaw6_SegPicks1]
    simp only [hxl, d, JN_0, JN_1, JN_2, JN_3, JN_4, JN_5, JN_6, JN_7, JN_8, JN_9, JN_10, JN_11, JN_12, JN_13, JN_14, JN_15, JN_16, JN_17, JN_18, JN_19, JN_20, JN_21, JN_22, JN_23, JN_24, B1_s, B2_s, BN_s, CD_t, CD_f, GO_tt, GO_ft, GO_tf, GO_ff, GO_ut, GO_uf, GD2_tt, GD2_ft, GD2_tf, GD2_ff, pk_t, pk_f, nilA_p, nilA_i, fa_p, fd_a, ex_t, iadd_i, isub_i, imul_i, ieq_i, ine_i, ilt_i, ile_i, igt_i, ige_i, seq_s, sne_s, slt_s, lens_s, lenx_0, lenx_s, not_b, bb_e, bb_n, cv_i, pe_00, pe_0p, pe_p0, eqB_e, eqB_n, List.getElem?_cons_zero, List.getElem?_cons_succ, Nat.zero_add, Bool.not_true, Bool.not_false, decide_true, decide_false, Int.reduceBEq, Int.reduceBNe, Int.reduceLT, Int.reduceLE, Int.reduceGT, Int.reduceGE, Int.reduceNeg, BEq.rfl, bne_self_eq_false, ge_iff_le, gt_iff_lt]
  | c :: r, i, hr => by
    have hxl := hp.len1
    rw [nums_len] at hxl
    obtain ⟨hi', hv, hr'⟩ := hd_drop hr
    have d : decide (((i : Nat) : Int) < ((ps.length : Nat) : Int)) = true := decide_eq_true (by omega)
    obtain ⟨q, u1, u2⟩ := hp.ia1 (nums_get hv) .i64
    obtain ⟨g1, g2⟩ := h1 c (List.mem_of_getElem? hv)
    have hnm := name_c an (vsA hT) c
    rw [g1] at hnm
    have hany : ns.any (· == nms c) = true := List.any_eq_true.2 ⟨nms c, g2, by simp⟩
    have lp := fun (j78 : K.Fn 2) (j88 : K.Fn 4) (k : K.Fn 6) (x1 x2 x3 x4 : AV) => picks_loop2 (j78 := j78) (j88 := j88) (k := k) (x1 := x1) (x2 := x2) (x3 := x3) (x4 := x4) (s := nms c) hy hl ns 0 false rfl
    rw [show (((0 : Nat) : Int)) = 0 from rfl, hany, Bool.false_or] at lp
    have e3 : IntKind.wrap .i64 (((i : Nat) : Int) + 1) = ((i + 1 : Nat) : Int) := by rw [wrap_i64 (by omega) (by omega)]; rfl
    have ih := picks_loop1 (x := x) hT hn hy hl hp hpl h1 h2 k r (i + 1) hr'
    rw [ql_outriderlaw6_SegPicks1]
    cases i with
    | zero =>
      have d3 : decide ((0 : Int) < ((0 : Nat) : Int)) = false := by decide
      simp only [hxl, d, u1, u2, hnm, lp, d3, e3, ih, JN_0, JN_1, JN_2, JN_3, JN_4, JN_5, JN_6, JN_7, JN_8, JN_9, JN_10, JN_11, JN_12, JN_13, JN_14, JN_15, JN_16, JN_17, JN_18, JN_19, JN_20, JN_21, JN_22, JN_23, JN_24, B1_s, B2_s, BN_s, CD_t, CD_f, GO_tt, GO_ft, GO_tf, GO_ff, GO_ut, GO_uf, GD2_tt, GD2_ft, GD2_tf, GD2_ff, pk_t, pk_f, nilA_p, nilA_i, fa_p, fd_a, ex_t, iadd_i, isub_i, imul_i, ieq_i, ine_i, ilt_i, ile_i, igt_i, ige_i, seq_s, sne_s, slt_s, lens_s, lenx_0, lenx_s, not_b, bb_e, bb_n, cv_i, pe_00, pe_0p, pe_p0, eqB_e, eqB_n, List.getElem?_cons_zero, List.getElem?_cons_succ, Nat.zero_add, Bool.not_true, Bool.not_false, decide_true, decide_false, Int.reduceBEq, Int.reduceBNe, Int.reduceLT, Int.reduceLE, Int.reduceGT, Int.reduceGE, Int.reduceNeg, BEq.rfl, bne_self_eq_false, ge_iff_le, gt_iff_lt]
    | succ i =>
      have d3 : decide ((0 : Int) < ((i + 1 : Nat) : Int)) = true := decide_eq_true (by omega)
      obtain ⟨w, hw⟩ : ∃ w, ps[i]? = some w := ⟨_, List.getElem?_eq_getElem (by omega)⟩
      obtain ⟨q', v1, v2⟩ := hp.ia1 (nums_get hw) .i64
      have e4 : IntKind.wrap .i64 (((i + 1 : Nat) : Int) - 1) = ((i : Nat) : Int) := by rw [wrap_i64 (by omega) (by omega)]; omega
      have hlt : w < c := by
        obtain ⟨a1, a2⟩ := List.getElem?_eq_some_iff.1 hw
        obtain ⟨b1, b2⟩ := List.getElem?_eq_some_iff.1 hv
        have := List.pairwise_iff_getElem.1 h2 i (i + 1) a1 b1 (by omega)
        rw [a2, b2] at this
        exact this
      have d4 : decide (c ≤ w) = false := decide_eq_false (by omega)
      simp only [hxl, d, u1, u2, hnm, lp, d3, e4, v1, v2, d4, e3, ih, JN_0, JN_1, JN_2, JN_3, JN_4, JN_5, JN_6, JN_7, JN_8, JN_9, JN_10, JN_11, JN_12, JN_13, JN_14, JN_15, JN_16, JN_17, JN_18, JN_19, JN_20, JN_21, JN_22, JN_23, JN_24, B1_s, B2_s, BN_s, CD_t, CD_f, GO_tt, GO_ft, GO_tf, GO_ff, GO_ut, GO_uf, GD2_tt, GD2_ft, GD2_tf, GD2_ff, pk_t, pk_f, nilA_p, nilA_i, fa_p, fd_a, ex_t, iadd_i, isub_i, imul_i, ieq_i, ine_i, ilt_i, ile_i, igt_i, ige_i, seq_s, sne_s, slt_s, lens_s, lenx_0, lenx_s, not_b, bb_e, bb_n, cv_i, pe_00, pe_0p, pe_p0, eqB_e, eqB_n, List.getElem?_cons_zero, List.getElem?_cons_succ, Nat.zero_add, Bool.not_true, Bool.not_false, decide_true, decide_false, Int.reduceBEq, Int.reduceBNe, Int.reduceLT, Int.reduceLE, Int.reduceGT, Int.reduceGE, Int.reduceNeg, BEq.rfl, bne_self_eq_false, ge_iff_le, gt_iff_lt]
theorem picks_loop4 {j198 : K.Fn 0} {j207 : K.Fn 3} {k : K.Fn 5} {H : Hp} {x p x4 : AV} {zs ps : List Int} {i0 : Nat} {z : Int} (hx : Rw H 1 x (nums zs)) (hz : zs[i0]? = some z) (hp : Rw H 1 p (nums ps)) (hpl : ps.length ≤ 1000) : ∀ (r : List Int) (i : Nat) (t : Bool), ps.drop i = r →
    l_outriderlaw6_SegPicks4 JN GO cK j198 j207 k x p (.int .i64 (i0 : Nat)) x4 (.bool t) (.int .i64 (i : Nat)) H = k x p (.int .i64 (i0 : Nat)) x4 (.bool (t || r.any (· == z))) H
  | [], i, t, hr => by
    have hxl := hp.len1
    rw [nums_len] at hxl
    have : ps.length ≤ i := by simpa using hr
    have d : decide (((i : Nat) : Int) < ((ps.length : Nat) : Int)) = false := decide_eq_false (by omega)
    rw [ql_outriderlaw6_SegPicks4]
    simp only [hxl, d, List.any_nil, Bool.or_false, JN_0, JN_1, JN_2, JN_3, JN_4, JN_5, JN_6, JN_7, JN_8, JN_9, JN_10, JN_11, JN_12, JN_13, JN_14, JN_15, JN_16, JN_17, JN_18, JN_19, JN_20, JN_21, JN_22, JN_23, JN_24, B1_s, B2_s, BN_s, CD_t, CD_f, GO_tt, GO_ft, GO_tf, GO_ff, GO_ut, GO_uf, GD2_tt, GD2_ft, GD2_tf, GD2_ff, pk_t, pk_f, nilA_p, nilA_i, fa_p, fd_a, ex_t, iadd_i, isub_i, imul_i, ieq_i, ine_i, ilt_i, ile_i, igt_i, ige_i, seq_s, sne_s, slt_s, lens_s, lenx_0, lenx_s, not_b, bb_e, bb_n, cv_i, pe_00, pe_0p, pe_p0, eqB_e, eqB_n, List.getElem?_cons_zero, List.getElem?_cons_succ, Nat.zero_add, Bool.not_true, Bool.not_false, decide_true, decide_false, Int.reduceBEq, Int.reduceBNe, Int.reduceLT, Int.reduceLE, Int.reduceGT, Int.reduceGE, Int.reduceNeg, BEq.rfl, bne_self_eq_false, ge_iff_le, gt_iff_lt]
  | c :: r, i, t, hr => by
    have hxl := hp.len1
    rw [nums_len] at hxl
    obtain ⟨hi', hv, hr'⟩ := hd_drop hr
    have d : decide (((i : Nat) : Int) < ((ps.length : Nat) : Int)) = true := decide_eq_true (by omega)
    obtain ⟨q, u1, u2⟩ := hp.ia1 (nums_get hv) .i64
    obtain ⟨q', v1, v2⟩ := hx.ia1 (nums_get hz) .i64
    have e3 : IntKind.wrap .i64 (((i : Nat) : Int) + 1) = ((i + 1 : Nat) : Int) := by rw [wrap_i64 (by omega) (by omega)]; rfl
    have ih := fun t => picks_loop4 (j198 := j198) (j207 := j207) (k := k) (x4 := x4) hx hz hp hpl r (i + 1) t hr'
    rw [List.any_cons, ql_outriderlaw6_SegPicks4]
    cases t with
    | true =>
      simp only [hxl, d, e3, ih, Bool.true_or, JN_0, JN_1, JN_2, JN_3, JN_4, JN_5, JN_6, JN_7, JN_8, JN_9, JN_10, JN_11, JN_12, JN_13, JN_14, JN_15, JN_16, JN_17, JN_18, JN_19, JN_20, JN_21, JN_22, JN_23, JN_24, B1_s, B2_s, BN_s, CD_t, CD_f, GO_tt, GO_ft, GO_tf, GO_ff, GO_ut, GO_uf, GD2_tt, GD2_ft, GD2_tf, GD2_ff, pk_t, pk_f, nilA_p, nilA_i, fa_p, fd_a, ex_t, iadd_i, isub_i, imul_i, ieq_i, ine_i, ilt_i, ile_i, igt_i, ige_i, seq_s, sne_s, slt_s, lens_s, lenx_0, lenx_s, not_b, bb_e, bb_n, cv_i, pe_00, pe_0p, pe_p0, eqB_e, eqB_n, List.getElem?_cons_zero, List.getElem?_cons_succ, Nat.zero_add, Bool.not_true, Bool.not_false, decide_true, decide_false, Int.reduceBEq, Int.reduceBNe, Int.reduceLT, Int.reduceLE, Int.reduceGT, Int.reduceGE, Int.reduceNeg, BEq.rfl, bne_self_eq_false, ge_iff_le, gt_iff_lt]
    | false =>
      simp only [hxl, d, u1, u2, v1, v2, e3, ih, Bool.false_or, JN_0, JN_1, JN_2, JN_3, JN_4, JN_5, JN_6, JN_7, JN_8, JN_9, JN_10, JN_11, JN_12, JN_13, JN_14, JN_15, JN_16, JN_17, JN_18, JN_19, JN_20, JN_21, JN_22, JN_23, JN_24, B1_s, B2_s, BN_s, CD_t, CD_f, GO_tt, GO_ft, GO_tf, GO_ff, GO_ut, GO_uf, GD2_tt, GD2_ft, GD2_tf, GD2_ff, pk_t, pk_f, nilA_p, nilA_i, fa_p, fd_a, ex_t, iadd_i, isub_i, imul_i, ieq_i, ine_i, ilt_i, ile_i, igt_i, ige_i, seq_s, sne_s, slt_s, lens_s, lenx_0, lenx_s, not_b, bb_e, bb_n, cv_i, pe_00, pe_0p, pe_p0, eqB_e, eqB_n, List.getElem?_cons_zero, List.getElem?_cons_succ, Nat.zero_add, Bool.not_true, Bool.not_false, decide_true, decide_false, Int.reduceBEq, Int.reduceBNe, Int.reduceLT, Int.reduceLE, Int.reduceGT, Int.reduceGE, Int.reduceNeg, BEq.rfl, bne_self_eq_false, ge_iff_le, gt_iff_lt]
theorem picks_loop3 {H : Hp} {x p : AV} {zs ps : List Int} (hT : hasT H begin0) (hn : 9 ≤ H.next) (hx : Rw H 1 x (nums zs)) (hxl' : zs.length ≤ 20) (hp : Rw H 1 p (nums ps)) (hpl : ps.length ≤ 1000) (h1 : ∀ z ∈ zs, inN z = ps.any (· == z)) (k : K.Fn 0) : ∀ (r : List Int) (i : Nat), zs.drop i = r →
    l_outriderlaw6_SegPicks3 JN GO cK k x p (.int .i64 (i : Nat)) H = k H
  | [], i, hr => by
    have hxl := hx.len1
    rw [nums_len] at hxl
    have : zs.length ≤ i := by simpa using hr
    have d : decide (((i : Nat) : Int) < ((zs.length : Nat) : Int)) = false := decide_eq_false (by omega)
    rw [ql_outriderlaw6_SegPicks3]
    simp only [hxl, d, JN_0, JN_1, JN_2, JN_3, JN_4, JN_5, JN_6, JN_7, JN_8, JN_9, JN_10, JN_11, JN_12, JN_13, JN_14, JN_15, JN_16, JN_17, JN_18, JN_19, JN_20, JN_21, JN_22, JN_23, JN_24, B1_s, B2_s, BN_s, CD_t, CD_f, GO_tt, GO_ft, GO_tf, GO_ff, GO_ut, GO_uf, GD2_tt, GD2_ft, GD2_tf, GD2_ff, pk_t, pk_f, nilA_p, nilA_i, fa_p, fd_a, ex_t, iadd_i, isub_i, imul_i, ieq_i, ine_i, ilt_i, ile_i, igt_i, ige_i, seq_s, sne_s, slt_s, lens_s, lenx_0, lenx_s, not_b, bb_e, bb_n, cv_i, pe_00, pe_0p, pe_p0, eqB_e, eqB_n, List.getElem?_cons_zero, List.getElem?_cons_succ, Nat.zero_add, Bool.not_true, Bool.not_false, decide_true, decide_false, Int.reduceBEq, Int.reduceBNe, Int.reduceLT, Int.reduceLE, Int.reduceGT, Int.reduceGE, Int.reduceNeg, BEq.rfl, bne_self_eq_false, ge_iff_le, gt_iff_lt]
  | c :: r, i, hr => by
    have hxl := hx.len1
    rw [nums_len] at hxl
    obtain ⟨hi', hv, hr'⟩ := hd_drop hr
    have d : decide (((i : Nat) : Int) < ((zs.length : Nat) : Int)) = true := decide_eq_true (by omega)
    obtain ⟨q, u1, u2⟩ := hx.ia1 (nums_get hv) .i64
    have hnm := name_c an (vsA hT) c
    have g := h1 c (List.mem_of_getElem? hv)
    have lp := fun (j198 : K.Fn 0) (j207 : K.Fn 3) (k : K.Fn 5) (x4 : AV) => picks_loop4 (j198 := j198) (j207 := j207) (k := k) (x4 := x4) hx hv hp hpl ps 0 false rfl
    rw [show (((0 : Nat) : Int)) = 0 from rfl, ← g, Bool.false_or] at lp
    have e1 : (inN c == inN c) = true := by simp
    have e3 : IntKind.wrap .i64 (((i : Nat) : Int) + 1) = ((i + 1 : Nat) : Int) := by rw [wrap_i64 (by omega) (by omega)]; rfl
    have ih := picks_loop3 hT hn hx hxl' hp hpl h1 k r (i + 1) hr'
    rw [ql_outriderlaw6_SegPicks3]
    simp only [hxl, d, u1, u2, hnm, lp, e1, e3, ih, JN_0, JN_1, JN_2, JN_3, JN_4, JN_5, JN_6, JN_7, JN_8, JN_9, JN_10, JN_11, JN_12, JN_13, JN_14, JN_15, JN_16, JN_17, JN_18, JN_19, JN_20, JN_21, JN_22, JN_23, JN_24, B1_s, B2_s, BN_s, CD_t, CD_f, GO_tt, GO_ft, GO_tf, GO_ff, GO_ut, GO_uf, GD2_tt, GD2_ft, GD2_tf, GD2_ff, pk_t, pk_f, nilA_p, nilA_i, fa_p, fd_a, ex_t, iadd_i, isub_i, imul_i, ieq_i, ine_i, ilt_i, ile_i, igt_i, ige_i, seq_s, sne_s, slt_s, lens_s, lenx_0, lenx_s, not_b, bb_e, bb_n, cv_i, pe_00, pe_0p, pe_p0, eqB_e, eqB_n, List.getElem?_cons_zero, List.getElem?_cons_succ, Nat.zero_add, Bool.not_true, Bool.not_false, decide_true, decide_false, Int.reduceBEq, Int.reduceBNe, Int.reduceLT, Int.reduceLE, Int.reduceGT, Int.reduceGE, Int.reduceNeg, BEq.rfl, bne_self_eq_false, ge_iff_le, gt_iff_lt]
theorem picks_law {H : Hp} {x y : AV} {ls : List (List Nat)} {zs : List Int} (hx : Rw H 1 x (strs ls)) (hls : ∀ s ∈ ls, (∀ c ∈ s, c < 256) ∧ s.length ≤ 281474976710656) (hy : Rw H 1 y (nums zs)) (hT : hasT H begin0) (hn : 9 ≤ H.next) :
    ∃ H', cK (.func (.func 7) [] []) [x, y] H = some (.bool true, H') := by
  have hA := awake_c an hT hn
  have hxl := hx.len1
  rw [strs_len] at hxl
  have hyl := hy.len1
  rw [nums_len] at hyl
  by_cases h1 : 20 < ls.length
  · have d1 : decide (20 < ((ls.length : Nat) : Int)) = true := decide_eq_true (by omega)
    refine ⟨H, c_outriderlaw6_SegPicks ?_⟩
    unfold s_outriderlaw6_SegPicks
    simp only [hA, hxl, d1, JN_0, JN_1, JN_2, JN_3, JN_4, JN_5, JN_6, JN_7, JN_8, JN_9, JN_10, JN_11, JN_12, JN_13, JN_14, JN_15, JN_16, JN_17, JN_18, JN_19, JN_20, JN_21, JN_22, JN_23, JN_24, B1_s, B2_s, BN_s, CD_t, CD_f, GO_tt, GO_ft, GO_tf, GO_ff, GO_ut, GO_uf, GD2_tt, GD2_ft, GD2_tf, GD2_ff, pk_t, pk_f, nilA_p, nilA_i, fa_p, fd_a, ex_t, iadd_i, isub_i, imul_i, ieq_i, ine_i, ilt_i, ile_i, igt_i, ige_i, seq_s, sne_s, slt_s, lens_s, lenx_0, lenx_s, not_b, bb_e, bb_n, cv_i, pe_00, pe_0p, pe_p0, eqB_e, eqB_n, List.getElem?_cons_zero, List.getElem?_cons_succ, Nat.zero_add, Bool.not_true, Bool.not_false, decide_true, decide_false, Int.reduceBEq, Int.reduceBNe, Int.reduceLT, Int.reduceLE, Int.reduceGT, Int.reduceGE, Int.reduceNeg, BEq.rfl, bne_self_eq_false, ge_iff_le, gt_iff_lt]
  have d1 : decide (20 < ((ls.length : Nat) : Int)) = false := decide_eq_false (by omega)
  by_cases h2 : 20 < zs.length
  · have d2 : decide (20 < ((zs.length : Nat) : Int)) = true := decide_eq_true (by omega)
    refine ⟨H, c_outriderlaw6_SegPicks ?_⟩
    unfold s_outriderlaw6_SegPicks
    simp only [hA, hxl, d1, hyl, d2, JN_0, JN_1, JN_2, JN_3, JN_4, JN_5, JN_6, JN_7, JN_8, JN_9, JN_10, JN_11, JN_12, JN_13, JN_14, JN_15, JN_16, JN_17, JN_18, JN_19, JN_20, JN_21, JN_22, JN_23, JN_24, B1_s, B2_s, BN_s, CD_t, CD_f, GO_tt, GO_ft, GO_tf, GO_ff, GO_ut, GO_uf, GD2_tt, GD2_ft, GD2_tf, GD2_ff, pk_t, pk_f, nilA_p, nilA_i, fa_p, fd_a, ex_t, iadd_i, isub_i, imul_i, ieq_i, ine_i, ilt_i, ile_i, igt_i, ige_i, seq_s, sne_s, slt_s, lens_s, lenx_0, lenx_s, not_b, bb_e, bb_n, cv_i, pe_00, pe_0p, pe_p0, eqB_e, eqB_n, List.getElem?_cons_zero, List.getElem?_cons_succ, Nat.zero_add, Bool.not_true, Bool.not_false, decide_true, decide_false, Int.reduceBEq, Int.reduceBNe, Int.reduceLT, Int.reduceLE, Int.reduceGT, Int.reduceGE, Int.reduceNeg, BEq.rfl, bne_self_eq_false, ge_iff_le, gt_iff_lt]
  have d2 : decide (20 < ((zs.length : Nat) : Int)) = false := decide_eq_false (by omega)
  obtain ⟨H1, n1, n2, n3, n4⟩ := newCells_ok H [] 9 0 (by simp)
  obtain ⟨s1, H2, a1, a2, a3, a4⟩ := append_ok (z := [.str []]) (s := .slice H.next 0 0 0 true 1) (l := []) (el := 9) .emp (hx.out n3 fun j _ q => by cases q) (strs_one _) (by omega) (by rw [strs_len, List.length_nil]; omega)
  have r0 : rid (.slice H.next 0 0 0 true 1) = [] := rfl
  rw [r0] at a3 a4
  rw [List.nil_append] at a2
  have o2 : Out [] H H2 := n3.trans a3
  have hrd : ∀ j ∈ rid s1, H.next ≤ j := fun j hj => (a4 j hj).elim (fun q => by cases q) fun q => by omega
  obtain ⟨s2, H3, b1, b2, b3, b4⟩ := picks_loop hy hT hn (by omega) zs 0 s1 ls H2 rfl (Nat.zero_le _) o2 a2 hrd (by omega)
  rw [show (((0 : Nat) : Int)) = 0 from rfl] at b1
  have hns : (ls ++ addL zs).length ≤ 40 := by
    have := addL_len zs
    rw [List.length_append]
    omega
  have hok : ∀ s ∈ ls ++ addL zs, (∀ c ∈ s, c < 256) ∧ s.length ≤ 281474976710656 := fun s hs => by
    rcases List.mem_append.1 hs with h | h
    · exact hls s h
    · obtain ⟨k1, k2⟩ := addL_ok zs s h
      exact ⟨k2, by omega⟩
  have hadd : ∀ a ∈ zs, inN a = true → nms a ∈ ls ++ addL zs := fun a h k => List.mem_append_right _ (addL_mem zs a h k)
  generalize ls ++ addL zs = ns at *
  have hT3 := hasT_out hT hn b2
  have hn3 : 9 ≤ H3.next := Nat.le_trans hn b2.1
  obtain ⟨p, H4, c1, c2, c3⟩ := pick_c b3.rw hT3 hn3 (by omega) (fun s hs => (hok s hs).2)
  have hT4 := hasT_out hT3 hn3 c2
  have hn4 : 9 ≤ H4.next := Nat.le_trans hn3 c2.1
  have hm := pickZ_mem ns
  have hlt := pickZ_lt ns
  have hpl : (pickZ ns).length ≤ 1000 := by
    unfold pickZ
    have h3 : ∀ l : List Int, (cmpZ l).length ≤ l.length := fun l => by
      cases l with
      | nil => exact Nat.le_refl _
      | cons a r =>
        have := gz_len a r
        simp only [cmpZ, List.length_cons]
        omega
    have h4 : ∀ l : List (List Nat), (pickL l).length ≤ l.length := fun l => by
      induction l with
      | nil => exact Nat.le_refl _
      | cons a r ih =>
        rw [pickL]
        split <;> simp only [List.length_cons] <;> omega
    have := h3 (sortZ (pickL ns))
    rw [sortZ_len] at this
    have := h4 ns
    omega
  generalize pickZ ns = ps at *
  have hy4 := (hy.out b2 fun j _ q => by cases q).out c2 fun j _ q => by cases q
  have hs4 := b3.rw.out c2 fun j _ q => by cases q
  have k1 : ∀ z ∈ ps, inN z = true ∧ nms z ∈ ns := fun z hz => by
    obtain ⟨s, q1, q2, rfl⟩ := (hm z).1 hz
    obtain ⟨w1, w2⟩ := pick_name (hok s q1).1 q2
    exact ⟨w1, by rw [w2]; exact q1⟩
  have k2 : ∀ z ∈ zs, inN z = ps.any (· == z) := fun z hz => by
    cases hin : inN z with
    | true =>
      have q1 := hadd z hz hin
      have q2 := sps_nms hin
      have e1 : ((z.toNat : Nat) : Int) = z := by
        unfold inN at hin
        simp at hin
        omega
      symm
      rw [List.any_eq_true]
      refine ⟨z, (hm z).2 ⟨nms z, q1, by rw [q2], by rw [q2]; exact e1.symm⟩, by simp⟩
    | false =>
      symm
      rw [List.any_eq_false]
      intro w hw
      have := (k1 w hw).1
      simp only [beq_iff_eq]
      intro q
      subst q
      rw [hin] at this
      cases this
  have lp1 := fun (k : K.Fn 2) => picks_loop1 (x := y) hT4 hn4 hs4 (by omega) c3.rw hpl k1 hlt k ps 0 rfl
  have lp3 := fun (k : K.Fn 0) => picks_loop3 hT4 hn4 hy4 (by omega) c3.rw hpl k2 k zs 0 rfl
  rw [show (((0 : Nat) : Int)) = 0 from rfl] at lp1 lp3
  refine ⟨H4, c_outriderlaw6_SegPicks ?_⟩
  unfold s_outriderlaw6_SegPicks
  simp only [hA, hxl, d1, hyl, d2, fl_nil, n1, a1, b1, c1, lp1, lp3, JN_0, JN_1, JN_2, JN_3, JN_4, JN_5, JN_6, JN_7, JN_8, JN_9, JN_10, JN_11, JN_12, JN_13, JN_14, JN_15, JN_16, JN_17, JN_18, JN_19, JN_20, JN_21, JN_22, JN_23, JN_24, B1_s, B2_s, BN_s, CD_t, CD_f, GO_tt, GO_ft, GO_tf, GO_ff, GO_ut, GO_uf, GD2_tt, GD2_ft, GD2_tf, GD2_ff, pk_t, pk_f, nilA_p, nilA_i, fa_p, fd_a, ex_t, iadd_i, isub_i, imul_i, ieq_i, ine_i, ilt_i, ile_i, igt_i, ige_i, seq_s, sne_s, slt_s, lens_s, lenx_0, lenx_s, not_b, bb_e, bb_n, cv_i, pe_00, pe_0p, pe_p0, eqB_e, eqB_n, List.getElem?_cons_zero, List.getElem?_cons_succ, Nat.zero_add, Bool.not_true, Bool.not_false, decide_true, decide_false, Int.reduceBEq, Int.reduceBNe, Int.reduceLT, Int.reduceLE, Int.reduceGT, Int.reduceGE, Int.reduceNeg, BEq.rfl, bne_self_eq_false, ge_iff_le, gt_iff_lt]
theorem is_strs {H : Hp} {x : AV} {d : D} (h : Is H (.slice 1 .str) [x] d) : ∃ l : List (List Nat), Rw H 1 x (strs l) ∧ ∀ s ∈ l, (∀ c ∈ s, c < 256) ∧ s.length ≤ 281474976710656 := by
  refine row_of AV.str (fun s => (∀ c ∈ s, c < 256) ∧ s.length ≤ 281474976710656) (fun l d h => ?_) h
  cases h with
  | str s h hl => exact ⟨s, rfl, h, Nat.le_trans hl (by decide)⟩
theorem is_nums {H : Hp} {x : AV} {d : D} (h : Is H (.slice 1 (.int .i64)) [x] d) : ∃ l : List Int, Rw H 1 x (nums l) := by
  obtain ⟨l, hl, _⟩ := row_of (AV.int .i64) (fun _ => True) (fun l d h => by
    cases h with
    | int k z h => exact ⟨z, rfl, trivial⟩) h
  exact ⟨l, hl⟩
theorem picks_top {H : Hp} {as' : List AV} {ds : List D} (h : ArgsIs H [.slice 1 .str, .slice 1 (.int .i64)] as' ds) (hT : hasT H begin0) (hn : 9 ≤ H.next) :
    ∃ H', cK (.func (.func 7) [] []) as' H = some (.bool true, H') := by
  cases h with
  | cons h0 h =>
  cases h with
  | cons h1 h =>
  cases h
  obtain ⟨l, h2, h3⟩ := is_strs (isA_row h0)
  obtain ⟨z, h4⟩ := is_nums (isA_row h1)
  exact picks_law h2 h3 h4 hT hn
end Go.Proofs.YtdacjomfipkpaaaDoor.SgK
