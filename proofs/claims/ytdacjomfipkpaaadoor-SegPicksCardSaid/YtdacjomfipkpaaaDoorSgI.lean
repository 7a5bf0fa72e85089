/- Frames read back, one behind the other; marks as an argument; frame.Put of a payload too long. Conditions: as stated. -/
import Derived.Test.YtdacjomfipkpaaaDoorSgH
namespace Go.Proofs.YtdacjomfipkpaaaDoor.SgK
open Go Am Am.K SgEnv
set_option linter.unusedVariables false
set_option linter.unusedSimpArgs false
theorem take_l {α : Type} (x y : List α) {n : Nat} (h : x.length = n) : (x ++ y).take n = x := by subst h; simp
theorem drop_l {α : Type} (x y : List α) {n : Nat} (h : x.length = n) : (x ++ y).drop n = y := by subst h; simp
theorem hd_drop {α : Type} {l r : List α} {v : α} {i : Nat} (h : l.drop i = v :: r) : i < l.length ∧ l[i]? = some v ∧ l.drop (i + 1) = r := by
  have hi : i < l.length := by
    rcases Nat.lt_or_ge i l.length with q | q
    · exact q
    · rw [List.drop_eq_nil_of_le q] at h; cases h
  refine ⟨hi, ?_, ?_⟩
  · have := congrArg (fun z => z[0]?) h
    simpa using this
  · rw [← List.drop_drop, h]; rfl
theorem fr_app (a : Nat) (b t : List Nat) : fr a b ++ t = le 4 b.length ++ (le 8 a ++ (le 4 (onS 1 (hd12 a b ++ b)) ++ (b ++ t))) := by
  simp [fr, hd12, List.append_assoc]
theorem fr_app2 (a : Nat) (b t : List Nat) : fr a b ++ t = hd12 a b ++ (le 4 (onS 1 (hd12 a b ++ b)) ++ (b ++ t)) := by
  simp [fr, List.append_assoc]
theorem fr_app3 (a : Nat) (b t : List Nat) : fr a b ++ t = (hd12 a b ++ le 4 (onS 1 (hd12 a b ++ b))) ++ (b ++ t) := by
  simp [fr, List.append_assoc]
theorem gN_fr (a : Nat) {b : List Nat} (t : List Nat) (hn : b.length ≤ 1024) : gN (fr a b ++ t) = b.length := by
  unfold gN
  rw [fr_app, take_l _ _ (le_len 4 _), ud_le]
  exact Nat.mod_eq_of_lt (Nat.lt_of_le_of_lt hn (by decide))
theorem gA_fr {a : Nat} (b t : List Nat) (ha : a < 18446744073709551616) : gA (fr a b ++ t) = a := by
  unfold gA
  rw [fr_app, drop_l _ _ (le_len 4 _), take_l _ _ (le_len 8 _), ud_le]
  exact Nat.mod_eq_of_lt (Nat.lt_of_lt_of_le ha (by decide))
theorem gB_fr (a : Nat) {b : List Nat} (t : List Nat) (hn : b.length ≤ 1024) : gB (fr a b ++ t) = b := by
  unfold gB
  rw [gN_fr a t hn, fr_app3, drop_l _ _ (by rw [List.length_append, hd12_len, le_len]), take_l _ _ rfl]
theorem gE_fr (a : Nat) {b : List Nat} (t : List Nat) (hn : b.length ≤ 1024) : gE (fr a b ++ t) = 0 := by
  have hl : (fr a b ++ t).length = 16 + b.length + t.length := by rw [List.length_append, fr_len]
  have h1 : (fr a b ++ t).take 12 = hd12 a b := by rw [fr_app2, take_l _ _ (hd12_len a b)]
  have h2 : ((fr a b ++ t).drop 12).take 4 = le 4 (onS 1 (hd12 a b ++ b)) := by rw [fr_app2, drop_l _ _ (hd12_len a b), take_l _ _ (le_len 4 _)]
  have h3 : ud (le 4 (onS 1 (hd12 a b ++ b))) = onS 1 (hd12 a b ++ b) := by
    rw [ud_le]
    exact Nat.mod_eq_of_lt (onS_lt (s := 1) (by decide) _).1
  unfold gE
  rw [gN_fr a t hn, gB_fr a t hn, h1, h2, h3, if_neg (by omega), if_neg (by omega), if_neg (by omega), if_neg (by simp)]
/-- frames of the epoch 3, one behind the other; their records -/
def frs : Nat → List (List Nat) → List Nat
  | _, [] => []
  | i, m :: ms => fr (52776558133248 + i) m ++ frs (i + 1) ms
def rcM : Nat → List (List Nat) → List (Nat × List Nat)
  | _, [] => []
  | i, m :: ms => (52776558133248 + i, m) :: rcM (i + 1) ms
theorem rcM_len : ∀ (i : Nat) (ms : List (List Nat)), (rcM i ms).length = ms.length
  | _, [] => rfl
  | i, m :: ms => by rw [rcM, List.length_cons, rcM_len, List.length_cons]
theorem rcM_get : ∀ (ms : List (List Nat)) (i j : Nat) (m : List Nat), ms[j]? = some m → (rcM i ms)[j]? = some (52776558133248 + (i + j), m)
  | _ :: _, i, 0, m, h => by cases h; rfl
  | _ :: ms, i, j + 1, m, h => by
    have := rcM_get ms (i + 1) j m h
    rw [Nat.add_assoc, Nat.add_comm 1 j] at this
    exact this
theorem frs_byte : ∀ (ms : List (List Nat)) (i : Nat), (∀ m ∈ ms, ∀ v ∈ m, v < 256) → ∀ v ∈ frs i ms, v < 256
  | [], _, _, v, h => by cases h
  | m :: ms, i, hb, v, h => by
    rcases List.mem_append.1 h with h | h
    · rcases List.mem_append.1 h with h | h
      · rcases List.mem_append.1 h with h | h
        · exact hd12_byte _ _ v h
        · exact le_byte _ _ v h
      · exact hb m (.head _) v h
    · exact frs_byte ms (i + 1) (fun q hq => hb q (.tail _ hq)) v h
theorem scan_frs : ∀ (ms : List (List Nat)) (f i : Nat) (ep : Int) (t : List Nat), (∀ m ∈ ms, m.length ≤ 1024) → ms.length ≤ f → i + ms.length ≤ 1000 → ep ≤ 3 →
    ∃ r n, scanM f (frs i ms ++ t) (i : Nat) ep = (rcM i ms ++ r, (frs i ms).length + n)
  | [], f, i, ep, t, _, _, _, _ => ⟨_, _, by rw [frs, rcM, List.nil_append, List.nil_append, List.length_nil, Nat.zero_add]⟩
  | m :: ms, 0, i, ep, t, _, h, _, _ => by simp at h
  | m :: ms, f + 1, i, ep, t, hm, hf, hi, he => by
    rw [List.length_cons] at hf hi
    obtain ⟨r, n, ih⟩ := scan_frs ms f (i + 1) 3 t (fun q hq => hm q (.tail _ hq)) (by omega) (by omega) (Int.le_refl _)
    have hl := hm m (.head _)
    have e1 : frs i (m :: ms) ++ t = fr (52776558133248 + i) m ++ (frs (i + 1) ms ++ t) := by rw [frs, List.append_assoc]
    have hN := gN_fr (52776558133248 + i) (frs (i + 1) ms ++ t) hl
    have hA := gA_fr (a := 52776558133248 + i) m (frs (i + 1) ms ++ t) (by omega)
    have hB := gB_fr (52776558133248 + i) (frs (i + 1) ms ++ t) hl
    have hE := gE_fr (52776558133248 + i) (frs (i + 1) ms ++ t) hl
    have hne : ¬ (fr (52776558133248 + i) m ++ (frs (i + 1) ms ++ t)) = [] := fun q => by
      have := congrArg List.length q
      rw [List.length_append, fr_len] at this
      simp at this
    have m1 : (52776558133248 + i) % 17592186044416 = i := by omega
    have m2 : (52776558133248 + i) / 17592186044416 = 3 := by omega
    have hon : on (fr (52776558133248 + i) m ++ (frs (i + 1) ms ++ t)) (i : Nat) ep = true := by
      unfold on
      rw [hE, hA, m1, m2]
      simp
      exact he
    have hw : IntKind.wrap .i64 (((i : Nat) : Int) + 1) = ((i + 1 : Nat) : Int) := by rw [wrap_i64 (by omega) (by omega)]; rfl
    refine ⟨r, n, ?_⟩
    rw [e1, scanM, if_neg hne, if_pos hon, hN, hA, hB, m2, hw, drop_l _ _ (fr_len _ _), show (((3 : Nat) : Int)) = 3 from rfl, ih, frs, rcM, List.length_append, fr_len]
    simp only [List.cons_append, Nat.add_assoc]
theorem fl_rec {H : Hp} {es : Nat} {y : AV} {l : List AV} (h : Rw H es y l) (a : Int) : fl [.int .u64 0, .slice0] [(0, 1, .int .u64 a), (1, 1, y)] = some [.int .u64 a, y] := by
  have c1 : cellsV (.int .u64 a) = some [.int .u64 a] := rfl
  have c2 := cells_rw h
  simp [fl, c1, c2]
theorem put_big {H : Hp} {x y : AV} {b : List Nat} {s : Int} (hy : Rw H 1 y (bs b)) (hn : 1024 < b.length) :
    ∃ H', cK (.func (.func 18) [] []) [x, .agg [.int .u64 s, y]] H = some (.tuple [.slice0, .int .i64 14], H') ∧ Out [] H H' := by
  obtain ⟨H1, b1, b2, b3, b4⟩ := bx_ok H 48 _ _ (cells_rec hy s) (by simp)
  have hyl := hy.len1
  rw [bs_len] at hyl
  have d1 : decide (1024 < ((b.length : Nat) : Int)) = true := decide_eq_true (by omega)
  have l1 : ld (.ptr H.next 1) H1 = some y := b2.ld rfl
  refine ⟨H1, c_frame_Put ?_, b3⟩
  unfold s_frame_Put
  simp only [b1, l1, hyl, d1, JN_0, JN_1, JN_2, JN_3, JN_4, JN_5, JN_6, JN_7, JN_8, JN_9, JN_10, JN_11, JN_12, JN_13, JN_14, JN_15, JN_16, JN_17, JN_18, JN_19, JN_20, JN_21, JN_22, JN_23, JN_24, B1_s, B2_s, BN_s, CD_t, CD_f, GO_tt, GO_ft, GO_tf, GO_ff, GO_ut, GO_uf, GD2_tt, GD2_ft, GD2_tf, GD2_ff, pk_t, pk_f, nilA_p, nilA_i, fa_p, fd_a, ex_t, iadd_i, isub_i, imul_i, ieq_i, ine_i, ilt_i, ile_i, igt_i, ige_i, seq_s, sne_s, slt_s, lens_s, lenx_0, lenx_s, not_b, bb_e, bb_n, cv_i, pe_00, pe_0p, pe_p0, eqB_e, eqB_n, List.getElem?_cons_zero, List.getElem?_cons_succ, Nat.zero_add, Bool.not_true, Bool.not_false, decide_true, decide_false, Int.reduceBEq, Int.reduceBNe, Int.reduceLT, Int.reduceLE, Int.reduceGT, Int.reduceGE, Int.reduceNeg, BEq.rfl, bne_self_eq_false, ge_iff_le, gt_iff_lt]
theorem iaN {H : Hp} {es : Nat} {x : AV} {l : List AV} (h : Rw H es x l) (hes : 0 < es) {j : Nat} (hj : j * es < l.length) (k : IntKind) :
    ∃ i o, ia es x (.int k j) = some (.ptr i o) ∧ ∀ r v, l[j * es + r]? = some v → ld (.ptr i (o + r)) H = some v := by
  cases h with
  | nil => simp at hj
  | emp => simp at hj
  | mk hr hn hc he =>
    refine ⟨_, _, ia_s (Nat.lt_of_mul_lt_mul_right (a := es) (by omega)), fun r v hv => ?_⟩
    rw [Nat.add_assoc]
    exact hr.ld hv
theorem rcs_get : ∀ (rs : List (Nat × List Nat)) (ys : List AV) (j : Nat) (r : Nat × List Nat) (y : AV), rs[j]? = some r → ys[j]? = some y → (rcs rs ys)[j * 2 + 0]? = some (.int .u64 (r.1 : Nat)) ∧ (rcs rs ys)[j * 2 + 1]? = some y
  | _ :: _, _ :: _, 0, r, y, h, k => by cases h; cases k; exact ⟨rfl, rfl⟩
  | _ :: rs, _ :: ys, j + 1, r, y, h, k => by
    have := rcs_get rs ys j r y h k
    rw [show (j + 1) * 2 + 0 = j * 2 + 0 + 1 + 1 by omega, show (j + 1) * 2 + 1 = j * 2 + 1 + 1 + 1 by omega]
    exact this
theorem Rs.lenc {H : Hp} {x : AV} {rs : List (Nat × List Nat)} {ys : List AV} (h : Rs H x rs ys) : lenx x = some (.int .i64 rs.length) := by
  obtain ⟨n, h1, h2⟩ := h.own.rw.len
  rw [rcs_len _ _ h.len] at h2
  rw [h1]
  have : n = rs.length := by omega
  rw [this]
theorem Rs.at {H : Hp} {x : AV} {rs : List (Nat × List Nat)} {ys : List AV} (h : Rs H x rs ys) {j : Nat} {r : Nat × List Nat} (hj : rs[j]? = some r) (k : IntKind) :
    ∃ i o y, ia 2 x (.int k j) = some (.ptr i o) ∧ ld (.ptr i (o + 0)) H = some (.int .u64 (r.1 : Nat)) ∧ ld (.ptr i (o + 1)) H = some y ∧ Rw H 1 y (bs r.2) := by
  have hlt := (List.getElem?_eq_some_iff.1 hj).1
  obtain ⟨y0, hy⟩ : ∃ y0, ys[j]? = some y0 := ⟨_, List.getElem?_eq_getElem (by rw [h.len]; exact hlt)⟩
  obtain ⟨g0, g1⟩ := rcs_get rs ys j r _ hj hy
  obtain ⟨i, o, a1, a2⟩ := iaN h.own.rw (by decide) (j := j) (by rw [rcs_len _ _ h.len]; omega) k
  exact ⟨i, o, y0, a1, a2 0 _ g0, a2 1 _ g1, h.row j _ r hy hj⟩
theorem frs_len : ∀ (ms : List (List Nat)) (i : Nat), (∀ m ∈ ms, m.length ≤ 60) → (frs i ms).length ≤ ms.length * 76
  | [], _, _ => Nat.zero_le _
  | m :: ms, i, h => by
    have h1 := h m (.head _)
    have h2 := frs_len ms (i + 1) fun q hq => h q (.tail _ hq)
    rw [frs, List.length_append, fr_len, List.length_cons]
    omega
/-- a list of what is there, place by place -/
theorem pick_list {α : Type} (Q : Nat → α → Prop) : ∀ n, (∀ j, j < n → ∃ a, Q j a) → ∃ l : List α, l.length = n ∧ ∀ j a, l[j]? = some a → Q j a
  | 0, _ => ⟨[], rfl, fun j a h => by simp at h⟩
  | n + 1, h => by
    obtain ⟨l, hl, hq⟩ := pick_list Q n fun j hj => h j (by omega)
    obtain ⟨a, ha⟩ := h n (by omega)
    refine ⟨l ++ [a], by simp [hl], fun j b hb => ?_⟩
    by_cases hj : j < l.length
    · rw [List.getElem?_append_left hj] at hb
      exact hq j b hb
    · rw [List.getElem?_append_right (by omega)] at hb
      have hlt := (List.getElem?_eq_some_iff.1 hb).1
      rw [List.length_singleton] at hlt
      have e : j = n := by omega
      subst e
      rw [hl, Nat.sub_self] at hb
      cases hb
      exact ha
theorem at3 {l : List AV} {a r : Nat} {v : AV} {n : Nat} (h : [v] = (((l.drop a).take n).drop r).take 1) : l[a + r]? = some v := by
  have := congrArg (fun z => z[0]?) h
  simp only [List.getElem?_take, List.getElem?_drop, Nat.add_zero, List.getElem?_cons_zero] at this
  split at this
  · split at this
    · exact this.symm
    · cases this
  · cases this
theorem is_i {H : Hp} {k : IntKind} {l : List AV} {d : D} (h : Is H (.int k) l d) : ∃ z, [.int k z] = l ∧ k.min ≤ z ∧ z ≤ k.max := by
  cases h with
  | int k z h => exact ⟨z, rfl, h⟩
theorem is_b {H : Hp} {l : List AV} {d : D} (h : Is H (.slice 1 (.int .u8)) l d) : ∃ x b, [x] = l ∧ Rw H 1 x (bs b) ∧ ∀ c ∈ b, c < 256 := by
  cases h with
  | slice hr hl hd =>
    obtain ⟨b, h1, h2⟩ := is_bytes (.slice hr hl hd)
    exact ⟨_, b, rfl, h1, h2⟩
abbrev MarkTy : Ty := .struct 3 [(0, 1, .int .i64), (1, 1, .int .i64), (2, 1, .slice 1 (.int .u8))]
/-- a row of marks -/
def Mk (H : Hp) (x : AV) (ms : List (Int × Int × List Nat)) : Prop := ∃ cs, Rw H 3 x cs ∧ cs.length = ms.length * 3 ∧ ∀ j m, ms[j]? = some m → cs[j * 3 + 0]? = some (.int .i64 m.1) ∧ cs[j * 3 + 1]? = some (.int .i64 m.2.1) ∧ ∃ y, cs[j * 3 + 2]? = some y ∧ Rw H 1 y (bs m.2.2)
def MkOK (m : Int × Int × List Nat) : Prop := (-9223372036854775808 ≤ m.1 ∧ m.1 ≤ 9223372036854775807) ∧ (-9223372036854775808 ≤ m.2.1 ∧ m.2.1 ≤ 9223372036854775807) ∧ ∀ v ∈ m.2.2, v < 256
theorem marks_of {H : Hp} {x : AV} {d : D} (h : Is H (.slice 3 MarkTy) [x] d) : ∃ ms, Mk H x ms ∧ ∀ m ∈ ms, MkOK m := by
  cases h with
  | @slice _ _ _ cs ds hr hl hd =>
    obtain ⟨ms, h1, h2⟩ := pick_list (fun j (m : Int × Int × List Nat) => (cs[j * 3 + 0]? = some (.int .i64 m.1) ∧ cs[j * 3 + 1]? = some (.int .i64 m.2.1) ∧ ∃ y, cs[j * 3 + 2]? = some y ∧ Rw H 1 y (bs m.2.2)) ∧ MkOK m) ds.length (fun j hj => by
      have hs := hd j _ (List.getElem?_eq_getElem hj)
      generalize hL : (cs.drop (j * 3)).take 3 = L at hs
      generalize ds[j] = dd at hs
      cases hs with
      | @struct _ _ _ es q1 q2 q3 =>
        simp only [List.length_cons, List.length_nil] at q2
        obtain ⟨a, a1, a2⟩ := is_i (q3 0 _ _ rfl (List.getElem?_eq_getElem (by omega)))
        obtain ⟨b, b1, b2⟩ := is_i (q3 1 _ _ rfl (List.getElem?_eq_getElem (by omega)))
        obtain ⟨y, c, c1, c2, c3⟩ := is_b (q3 2 _ _ rfl (List.getElem?_eq_getElem (by omega)))
        subst hL
        exact ⟨(a, b, c), ⟨at3 a1, at3 b1, y, at3 c1, c2⟩, a2, b2, c3⟩)
    refine ⟨ms, ⟨cs, hr, by rw [hl, h1], fun j m hm => (h2 j m hm).1⟩, fun m hm => ?_⟩
    obtain ⟨j, hj⟩ := List.mem_iff_getElem?.1 hm
    exact (h2 j m hj).2
theorem Mk.out {H H' : Hp} {x : AV} {ms : List (Int × Int × List Nat)} (h : Mk H x ms) (k : Out [] H H') : Mk H' x ms := by
  obtain ⟨cs, h1, h2, h3⟩ := h
  refine ⟨cs, h1.out k (fun j _ q => by cases q), h2, fun j m hm => ?_⟩
  obtain ⟨a, b, y, c, d⟩ := h3 j m hm
  exact ⟨a, b, y, c, d.out k fun j _ q => by cases q⟩
theorem Mk.lenc {H : Hp} {x : AV} {ms : List (Int × Int × List Nat)} (h : Mk H x ms) : lenx x = some (.int .i64 ms.length) := by
  obtain ⟨cs, h1, h2, h3⟩ := h
  obtain ⟨n, a, b⟩ := h1.len
  have : n = ms.length := by omega
  rw [a, this]
theorem Mk.at {H : Hp} {x : AV} {ms : List (Int × Int × List Nat)} (h : Mk H x ms) {j : Nat} {m : Int × Int × List Nat} (hj : ms[j]? = some m) (k : IntKind) :
    ∃ i o y, ia 3 x (.int k j) = some (.ptr i o) ∧ ld (.ptr i (o + 0)) H = some (.int .i64 m.1) ∧ ld (.ptr i (o + 1)) H = some (.int .i64 m.2.1) ∧ ld (.ptr i (o + 2)) H = some y ∧ Rw H 1 y (bs m.2.2) := by
  obtain ⟨cs, h1, h2, h3⟩ := h
  obtain ⟨a, b, y, c, d⟩ := h3 j m hj
  have hlt := (List.getElem?_eq_some_iff.1 hj).1
  obtain ⟨i, o, a1, a2⟩ := iaN h1 (by decide) (j := j) (by omega) k
  exact ⟨i, o, y, a1, a2 0 _ a, a2 1 _ b, a2 2 _ c, d⟩
end Go.Proofs.YtdacjomfipkpaaaDoor.SgK
