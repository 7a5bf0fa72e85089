/- What the store's functions do, further contracts. Conditions: as each states them. -/
import Derived.Test.YtbdlbhlhnpblpaaGreatDoorWlK
import Derived.Test.YtbdlbhlhnpblpaaGreatDoorAm15
namespace Go.Proofs.YtbdlbhlhnpblpaaGreatDoor.StC
open Go Am Am.K WlEnv WlK
set_option linter.unusedVariables false
set_option linter.unusedSimpArgs false
set_option maxRecDepth 10000

/-! files come and go -/
theorem incr_cons (c : Nat) (x : ME) (es : List ME) (p : Nat) : incr c (x :: es) p = true ↔ p ≤ x.born ∧ x.born < c ∧ incr c es (x.born + 1) = true := by
  show F.bothB (Nat.ble p x.born) (F.bothB (Nat.blt x.born c) (incr c es (x.born + 1))) = true ↔ _
  rw [F.bothB_eq, F.bothB_eq, Bool.and_eq_true, Bool.and_eq_true, Nat.ble_eq, Nat.blt_eq]
theorem incr_add (c : Nat) (x : ME) (hx : x.born = c) : ∀ (a : List ME) (p : Nat), p ≤ c → incr c a p = true → incr (c + 1) (a ++ [x]) p = true
  | [], p, hp, h => by
    rw [List.nil_append, incr_cons]
    exact ⟨by omega, by omega, rfl⟩
  | y :: a, p, hp, h => by
    rw [incr_cons] at h
    rw [List.cons_append, incr_cons]
    exact ⟨h.1, by omega, incr_add c x hx a _ (by omega) h.2.2⟩
section
variable {H : Hp} {p : Nat} {m : SM} {L : Lay}
theorem St.mid_nf (h : St H p m L) : p ≠ L.mid ∧ L.mid ∉ rid L.keep ∧ ∀ y ∈ L.cs, L.mid ∉ y.ids := by
  have hnd := h.nd
  unfold foot at hnd
  rw [List.nodup_cons, List.nodup_cons] at hnd
  exact ⟨fun q => hnd.1 (by rw [q]; exact .head _), fun q => hnd.2.1 (List.mem_append_left _ q), fun y hy q => hnd.2.1 (List.mem_append_right _ (List.mem_flatMap.2 ⟨y, hy, q⟩))⟩
theorem St.outMid {H' : Hp} (h : St H p m L) (ho : Out [L.mid] H H') : C0 H' p [.int .i64 m.room, .map L.mid, .bool m.off, .int .i64 m.fuse, L.keep] ∧ Rw H' 1 L.keep (ints m.keep) ∧
    ∀ x ∈ L.cs, C0 H' x.id [x.sl, .int .i64 x.f.sure] ∧ Ow H' 5 1 x.sl (bs x.f.b) := by
  obtain ⟨n1, n2, n3⟩ := h.mid_nf
  have e : ∀ j, j ≠ L.mid → j ∉ [L.mid] := fun j hj q => hj (List.mem_singleton.1 q)
  exact ⟨h.head.out ho (e _ n1), h.keep.out ho fun j hj => e _ fun q => n2 (q ▸ hj), fun x hx => ⟨(h.file x hx).1.out ho (e _ fun q => n3 x hx (q ▸ .head _)), (h.file x hx).2.out ho fun j hj => e _ fun q => n3 x hx (q ▸ .tail _ hj)⟩⟩
theorem St.addFile (h : St H p m L) {id : Nat} {sl : AV} {f : Fl} (hne : ∀ y ∈ L.cs, y.f.nm ≠ f.nm) (hc : C0 H id [sl, .int .i64 f.sure]) (hw : Ow H 5 1 sl (bs f.b)) (hd : ∀ j ∈ FC.ids ⟨id, sl, L.clk, f⟩, j ∉ foot p L) (hnd : (FC.ids ⟨id, sl, L.clk, f⟩).Nodup)
    (hsure : f.sure ≤ f.b.length) (hbyte : ∀ c ∈ f.b, c < 256) (hsum : sumB m.fs + f.b.length ≤ m.room) (hgood : okName f.nm = true) (hmany : m.fs.length < 64) :
    ∃ H', mup .str (.map L.mid) (.str f.nm) (.ptr id 0) H = some H' ∧ St H' p { m with fs := m.fs ++ [f] } { L with cs := L.cs ++ [⟨id, sl, L.clk, f⟩], clk := L.clk + 1 } ∧ Out [L.mid] H H' := by
  obtain ⟨H', d1, d2, d3⟩ := mup_new h.map (keys_ne hne) (.ptr id 0)
  obtain ⟨c1, c2, c3⟩ := h.outMid d3
  have hmid : ∀ j ∈ FC.ids ⟨id, sl, L.clk, f⟩, j ∉ [L.mid] := fun j hj q => hd j hj (by rw [List.mem_singleton.1 q]; exact St.mem_mid)
  refine ⟨H', d1, ⟨c1, by rw [List.map_append]; exact d2, fun y hy => ?_, c2, ?_, ?_, by rw [List.map_append, ← h.fs]; rfl, ⟨h.ok.room, by rw [sumB_app, sumB_cons]; exact hsum, fun g hg => ?_, fun g hg => ?_, h.ok.fuse, ?_, fun g hg => ?_, by rw [List.length_append]; simp; omega⟩⟩, d3⟩
  · rcases List.mem_append.1 hy with q | q
    · exact c3 y q
    · rw [List.mem_singleton.1 q]
      exact ⟨hc.out d3 (hmid _ (.head _)), hw.out d3 fun j hj => hmid j (.tail _ hj)⟩
  · have hn := h.nd
    unfold foot at hn ⊢
    rw [List.nodup_cons, List.nodup_cons, List.nodup_append] at hn
    rw [List.flatMap_append, List.nodup_cons, List.nodup_cons, List.nodup_append, List.nodup_append]
    have e : List.flatMap FC.ids [(⟨id, sl, L.clk, f⟩ : FC)] = FC.ids ⟨id, sl, L.clk, f⟩ := by simp
    rw [e]
    obtain ⟨n1, n2, n3, n4, n5⟩ := hn
    refine ⟨fun q => ?_, fun q => ?_, n3, ⟨n4, hnd, fun j hj k hk ek => hd k hk ?_⟩, fun j hj k hk => ?_⟩
    · rcases List.mem_cons.1 q with q | q
      · exact n1 (by rw [q]; exact .head _)
      rcases List.mem_append.1 q with q | q
      · exact n1 (.tail _ (List.mem_append_left _ q))
      rcases List.mem_append.1 q with q | q
      · exact n1 (.tail _ (List.mem_append_right _ q))
      · exact hd _ q St.mem_p
    · rcases List.mem_append.1 q with q | q
      · exact n2 (List.mem_append_left _ q)
      rcases List.mem_append.1 q with q | q
      · exact n2 (List.mem_append_right _ q)
      · exact hd _ q St.mem_mid
    · obtain ⟨y, hy, hj⟩ := List.mem_flatMap.1 hj
      rw [← ek]; exact St.mem_file hy hj
    · rcases List.mem_append.1 hk with q | q
      · exact n5 j hj k q
      · exact fun ek => hd k q (by rw [← ek]; exact St.mem_keep hj)
  · have hb' := h.born
    rw [List.map_append]
    exact incr_add L.clk (FC.me ⟨id, sl, L.clk, f⟩) rfl _ _ (Nat.zero_le _) hb'
  · rcases List.mem_append.1 hg with q | q
    · exact h.ok.sure g q
    · rw [List.mem_singleton.1 q]; exact hsure
  · rcases List.mem_append.1 hg with q | q
    · exact h.ok.byte g q
    · rw [List.mem_singleton.1 q]; exact hbyte
  · rw [List.map_append, List.nodup_append]
    refine ⟨h.ok.names, by simp, fun n hn k hk => ?_⟩
    obtain ⟨g, hg, rfl⟩ := List.mem_map.1 hn
    rw [h.fs] at hg
    obtain ⟨y, hy, rfl⟩ := List.mem_map.1 hg
    simp only [List.map_cons, List.map_nil, List.mem_singleton] at hk
    rw [hk]; exact hne y hy
  · rcases List.mem_append.1 hg with q | q
    · exact h.ok.good g q
    · rw [List.mem_singleton.1 q]; exact hgood
end
section
variable {H : Hp} {p : Nat} {m : SM} {L : Lay}
/-- bytes put behind a file -/
noncomputable def appM (m : SM) (at' : List Nat) (b : List Nat) : Int × SM := if ofE m at' ≠ 0 ∧ ofE m at' ≠ 4 then (ofE m at', m) else
  if (m.room : Int) - sumB m.fs < b.length ∨ ((look m at').isNone = true ∧ 64 ≤ m.fs.length) then (6, m) else if burnB m = false then (11, burnM m) else
  (0, { burnM m with fs := match look m at' with | some f => setF at' ⟨f.nm, f.b ++ b, f.sure⟩ m.fs | none => m.fs ++ [⟨at', b, 0⟩] })
theorem app_c (h : St H p m L) (at' : List Nat) {y : AV} {b : List Nat} (hy : Rw H 1 y (bs b)) (hb : ∀ c ∈ b, c < 256) (hyd : ∀ j ∈ rid y, j ∉ foot p L) :
    ∃ H' L', cK (.func (.func 27) [] []) [.ptr p 0, .str at', y] H = some (.int .i64 (appM m at' b).1, H') ∧ St H' p (appM m at' b).2 L' ∧ Go' p H L H' L' := by
  have h0 := of_c h at'
  have hfree := free_c h
  have hylen := hy.len1
  rw [bs_len] at hylen
  have hroom := h.ok.room
  have hsum := h.ok.sum
  have hlenm := lenm_m h.map
  have hmap := h.ld_map
  have hcs : (L.cs.map FC.me).length = m.fs.length := by rw [h.fs, List.length_map, List.length_map]
  rw [hcs] at hlenm
  by_cases he2 : ofE m at' ≠ 0 ∧ ofE m at' ≠ 4
  · have : appM m at' b = (ofE m at', m) := by unfold appM; rw [if_pos he2]
    rw [this]
    refine ⟨H, L, c_store_Store_Append ?_, h, Go'.refl _ _ _⟩
    unfold s_store_Store_Append
    have d1 : (ofE m at' != 0) = true := by simpa using he2.1
    have d2 : (ofE m at' != 4) = true := by simpa using he2.2
    simp only [h0, d1, d2, JN_0, JN_1, JN_2, JN_3, JN_4, JN_5, JN_6, JN_7, JN_8, JN_9, JN_10, JN_11, JN_12, JN_13, JN_14, JN_15, JN_16, JN_17, JN_18, JN_19, JN_20, JN_21, JN_22, JN_23, JN_24, B1_s, B2_s, BN_s, CD_t, CD_f, GO_tt, GO_ft, GO_tf, GO_ff, GO_ut, GO_uf, GD2_tt, GD2_ft, GD2_tf, GD2_ff, pk_t, pk_f, nilA_p, nilA_i, fa_p, fd_a, ex_t, iadd_i, isub_i, imul_i, ieq_i, ine_i, ilt_i, ile_i, igt_i, ige_i, seq_s, sne_s, slt_s, lens_s, lenx_0, lenx_s, not_b, bb_e, bb_n, cv_i, pe_00, pe_0p, pe_p0, eqB_e, eqB_n, List.getElem?_cons_zero, List.getElem?_cons_succ, Nat.zero_add, Bool.not_true, Bool.not_false, decide_true, decide_false, Int.reduceBEq, Int.reduceBNe, Int.reduceLT, Int.reduceLE, Int.reduceGT, Int.reduceGE, Int.reduceNeg, BEq.rfl, bne_self_eq_false, ge_iff_le, gt_iff_lt]
  · -- the file is there, or is none
    have hcase : (ofE m at' = 0 ∧ m.off = false ∧ okName at' = true ∧ ∃ a x c, L.cs = a ++ x :: c ∧ x.f.nm = at' ∧ (∀ y ∈ a, y.f.nm ≠ at') ∧ (∀ y ∈ c, y.f.nm ≠ at') ∧ fp L at' = .ptr x.id 0 ∧ look m at' = some x.f ∧ x ∈ L.cs ∧ x.f ∈ m.fs) ∨
        (ofE m at' = 4 ∧ m.off = false ∧ okName at' = true ∧ look m at' = none ∧ fp L at' = .ptr0 ∧ ∀ y ∈ L.cs, y.f.nm ≠ at') := by
      rcases ofE_cases m at' with ⟨q, _⟩ | ⟨q, _⟩ | ⟨q, q1, q2, q3⟩ | ⟨q, _⟩
      · rw [q] at he2; simp at he2
      · rw [q] at he2; simp at he2
      · rcases h.lookC at' with ⟨r1, r2, r3⟩ | ⟨a, x, c, r1, r2, r3, r4, r5, r6⟩
        · exact .inr ⟨q, q1, q2, q3, r1, r3⟩
        · rw [q3] at r6; cases r6
      · obtain ⟨q1, q2, r⟩ := h.ofP q
        exact .inl ⟨q, q1, q2, r⟩
    have hE : (ofE m at' != 0) = true → (ofE m at' != 4) = false := by
      intro q
      rcases hcase with ⟨e, _⟩ | ⟨e, _⟩
      · rw [e] at q; cases q
      · rw [e]; rfl
    have hfirst : ∀ k : AV → R, B1 (ine (.int .i64 (ofE m at')) (.int .i64 0)) (fun v13 => GO v13 true (fun k14 => k14 (.int .i64 (ofE m at')) H) (fun v15 h16 => GO v13 true (fun k17 => B1 (ine v15 (.int .i64 4)) fun v18 => k17 v18 h16) (fun v19 h20 => B1 (pk v13 v19 (.bool false)) fun v21 => k v21) h16) H) = k (.bool false) := by
      intro k
      cases d : (ofE m at' != 0) with
      | false => simp only [d, JN_0, JN_1, JN_2, JN_3, JN_4, JN_5, JN_6, JN_7, JN_8, JN_9, JN_10, JN_11, JN_12, JN_13, JN_14, JN_15, JN_16, JN_17, JN_18, JN_19, JN_20, JN_21, JN_22, JN_23, JN_24, B1_s, B2_s, BN_s, CD_t, CD_f, GO_tt, GO_ft, GO_tf, GO_ff, GO_ut, GO_uf, GD2_tt, GD2_ft, GD2_tf, GD2_ff, pk_t, pk_f, nilA_p, nilA_i, fa_p, fd_a, ex_t, iadd_i, isub_i, imul_i, ieq_i, ine_i, ilt_i, ile_i, igt_i, ige_i, seq_s, sne_s, slt_s, lens_s, lenx_0, lenx_s, not_b, bb_e, bb_n, cv_i, pe_00, pe_0p, pe_p0, eqB_e, eqB_n, List.getElem?_cons_zero, List.getElem?_cons_succ, Nat.zero_add, Bool.not_true, Bool.not_false, decide_true, decide_false, Int.reduceBEq, Int.reduceBNe, Int.reduceLT, Int.reduceLE, Int.reduceGT, Int.reduceGE, Int.reduceNeg, BEq.rfl, bne_self_eq_false, ge_iff_le, gt_iff_lt]
      | true => simp only [d, hE d, JN_0, JN_1, JN_2, JN_3, JN_4, JN_5, JN_6, JN_7, JN_8, JN_9, JN_10, JN_11, JN_12, JN_13, JN_14, JN_15, JN_16, JN_17, JN_18, JN_19, JN_20, JN_21, JN_22, JN_23, JN_24, B1_s, B2_s, BN_s, CD_t, CD_f, GO_tt, GO_ft, GO_tf, GO_ff, GO_ut, GO_uf, GD2_tt, GD2_ft, GD2_tf, GD2_ff, pk_t, pk_f, nilA_p, nilA_i, fa_p, fd_a, ex_t, iadd_i, isub_i, imul_i, ieq_i, ine_i, ilt_i, ile_i, igt_i, ige_i, seq_s, sne_s, slt_s, lens_s, lenx_0, lenx_s, not_b, bb_e, bb_n, cv_i, pe_00, pe_0p, pe_p0, eqB_e, eqB_n, List.getElem?_cons_zero, List.getElem?_cons_succ, Nat.zero_add, Bool.not_true, Bool.not_false, decide_true, decide_false, Int.reduceBEq, Int.reduceBNe, Int.reduceLT, Int.reduceLE, Int.reduceGT, Int.reduceGE, Int.reduceNeg, BEq.rfl, bne_self_eq_false, ge_iff_le, gt_iff_lt]
    have hp0 : (if m.off = true ∨ okName at' = false then AV.ptr0 else fp L at') = fp L at' := by
      rcases hcase with ⟨_, q1, q2, _⟩ | ⟨_, q1, q2, _⟩ <;> simp [q1, q2]
    rw [hp0] at h0
    by_cases hbig : (m.room : Int) - sumB m.fs < b.length
    · have : appM m at' b = (6, m) := by unfold appM; rw [if_neg he2, if_pos (.inl hbig)]
      rw [this]
      refine ⟨H, L, c_store_Store_Append ?_, h, Go'.refl _ _ _⟩
      unfold s_store_Store_Append
      have d3 : decide ((m.room : Int) - sumB m.fs < b.length) = true := decide_eq_true hbig
      cases d : (ofE m at' != 0) with
      | false => simp only [h0, d, hylen, hfree, d3, JN_0, JN_1, JN_2, JN_3, JN_4, JN_5, JN_6, JN_7, JN_8, JN_9, JN_10, JN_11, JN_12, JN_13, JN_14, JN_15, JN_16, JN_17, JN_18, JN_19, JN_20, JN_21, JN_22, JN_23, JN_24, B1_s, B2_s, BN_s, CD_t, CD_f, GO_tt, GO_ft, GO_tf, GO_ff, GO_ut, GO_uf, GD2_tt, GD2_ft, GD2_tf, GD2_ff, pk_t, pk_f, nilA_p, nilA_i, fa_p, fd_a, ex_t, iadd_i, isub_i, imul_i, ieq_i, ine_i, ilt_i, ile_i, igt_i, ige_i, seq_s, sne_s, slt_s, lens_s, lenx_0, lenx_s, not_b, bb_e, bb_n, cv_i, pe_00, pe_0p, pe_p0, eqB_e, eqB_n, List.getElem?_cons_zero, List.getElem?_cons_succ, Nat.zero_add, Bool.not_true, Bool.not_false, decide_true, decide_false, Int.reduceBEq, Int.reduceBNe, Int.reduceLT, Int.reduceLE, Int.reduceGT, Int.reduceGE, Int.reduceNeg, BEq.rfl, bne_self_eq_false, ge_iff_le, gt_iff_lt]
      | true => simp only [h0, d, hE d, hylen, hfree, d3, JN_0, JN_1, JN_2, JN_3, JN_4, JN_5, JN_6, JN_7, JN_8, JN_9, JN_10, JN_11, JN_12, JN_13, JN_14, JN_15, JN_16, JN_17, JN_18, JN_19, JN_20, JN_21, JN_22, JN_23, JN_24, B1_s, B2_s, BN_s, CD_t, CD_f, GO_tt, GO_ft, GO_tf, GO_ff, GO_ut, GO_uf, GD2_tt, GD2_ft, GD2_tf, GD2_ff, pk_t, pk_f, nilA_p, nilA_i, fa_p, fd_a, ex_t, iadd_i, isub_i, imul_i, ieq_i, ine_i, ilt_i, ile_i, igt_i, ige_i, seq_s, sne_s, slt_s, lens_s, lenx_0, lenx_s, not_b, bb_e, bb_n, cv_i, pe_00, pe_0p, pe_p0, eqB_e, eqB_n, List.getElem?_cons_zero, List.getElem?_cons_succ, Nat.zero_add, Bool.not_true, Bool.not_false, decide_true, decide_false, Int.reduceBEq, Int.reduceBNe, Int.reduceLT, Int.reduceLE, Int.reduceGT, Int.reduceGE, Int.reduceNeg, BEq.rfl, bne_self_eq_false, ge_iff_le, gt_iff_lt]
    · have d3 : decide ((m.room : Int) - sumB m.fs < b.length) = false := decide_eq_false hbig
      obtain ⟨H1, L1, b1, b2, b3, b4⟩ := burn_c h
      rcases hcase with ⟨e, q1, q2, a, x, c, r1, r2, r3, r4, r5, r6, hx, hf⟩ | ⟨e, q1, q2, r6, r5, r3⟩
      · rw [r5, e] at h0
        have hcm : appM m at' b = if burnB m = false then (11, burnM m) else (0, { burnM m with fs := setF at' ⟨x.f.nm, x.f.b ++ b, x.f.sure⟩ m.fs }) := by
          unfold appM; rw [if_neg he2, if_neg (by simp [r6]; omega), r6]
        cases hB : burnB m with
        | false =>
          rw [hcm, if_pos hB]
          refine ⟨H1, L1, c_store_Store_Append ?_, b2, b3⟩
          unfold s_store_Store_Append
          simp only [h0, hylen, hfree, d3, b1, hB, JN_0, JN_1, JN_2, JN_3, JN_4, JN_5, JN_6, JN_7, JN_8, JN_9, JN_10, JN_11, JN_12, JN_13, JN_14, JN_15, JN_16, JN_17, JN_18, JN_19, JN_20, JN_21, JN_22, JN_23, JN_24, B1_s, B2_s, BN_s, CD_t, CD_f, GO_tt, GO_ft, GO_tf, GO_ff, GO_ut, GO_uf, GD2_tt, GD2_ft, GD2_tf, GD2_ff, pk_t, pk_f, nilA_p, nilA_i, fa_p, fd_a, ex_t, iadd_i, isub_i, imul_i, ieq_i, ine_i, ilt_i, ile_i, igt_i, ige_i, seq_s, sne_s, slt_s, lens_s, lenx_0, lenx_s, not_b, bb_e, bb_n, cv_i, pe_00, pe_0p, pe_p0, eqB_e, eqB_n, List.getElem?_cons_zero, List.getElem?_cons_succ, Nat.zero_add, Bool.not_true, Bool.not_false, decide_true, decide_false, Int.reduceBEq, Int.reduceBNe, Int.reduceLT, Int.reduceLE, Int.reduceGT, Int.reduceGE, Int.reduceNeg, BEq.rfl, bne_self_eq_false, ge_iff_le, gt_iff_lt]
        | true =>
          rw [hcm, if_neg (by simp [hB])]
          obtain ⟨e1, e2, e3, e4, e5, e6⟩ := b4 hB
          rw [e1] at b2 b3
          obtain ⟨hg1, hg2⟩ := b2.file x hx
          have hl1 := hg1.ld (o := 0) rfl
          have hy1 := hy.out e2 fun j hj q => hyd j hj (by rw [List.mem_singleton.1 q]; exact St.mem_p)
          have hlen2 : (bs x.f.b).length + (bs b).length ≤ 16777216 := by
            rw [bs_len, bs_len]
            have := len_le hf; omega
          obtain ⟨s', H2, a1, a2, a3, a4⟩ := append_ok (z := [.int .u8 0]) hg2 hy1 (bs_one b) (by omega) hlen2
          rw [← bs_app] at a2
          obtain ⟨H3, p1, p2, p3, p4⟩ := b2.put0 hx a3 a2 a4
          have hld2 : ld (.ptr x.id 0) H1 = some x.sl := hl1
          have hset := b2.setFile (f := ⟨x.f.nm, x.f.b ++ b, x.f.sure⟩) r1 (by rw [r2]; exact r3) (by rw [r2]; exact r4) rfl p3 (fun j hj => hj) p2 p4 a4 (rid_nd _) (by have := h.ok.sure x.f hf; simp; omega) (fun k hk => (List.mem_append.1 hk).elim (h.ok.byte x.f hf k) (hb k)) (by
            have := b2.sum_set r1 (by rw [r2]; exact r3) (by rw [r2]; exact r4) ⟨x.f.nm, x.f.b ++ b, x.f.sure⟩
            rw [e3] at this ⊢
            rw [e4]
            simp only [List.length_append] at this; omega)
          obtain ⟨s1, s2⟩ := hset
          rw [e3, r2] at s1
          refine ⟨H3, _, c_store_Store_Append ?_, by rw [r2]; exact s1, b3.trans s2⟩
          unfold s_store_Store_Append
          simp only [h0, hylen, hfree, d3, b1, hB, hl1, a1, p1, JN_0, JN_1, JN_2, JN_3, JN_4, JN_5, JN_6, JN_7, JN_8, JN_9, JN_10, JN_11, JN_12, JN_13, JN_14, JN_15, JN_16, JN_17, JN_18, JN_19, JN_20, JN_21, JN_22, JN_23, JN_24, B1_s, B2_s, BN_s, CD_t, CD_f, GO_tt, GO_ft, GO_tf, GO_ff, GO_ut, GO_uf, GD2_tt, GD2_ft, GD2_tf, GD2_ff, pk_t, pk_f, nilA_p, nilA_i, fa_p, fd_a, ex_t, iadd_i, isub_i, imul_i, ieq_i, ine_i, ilt_i, ile_i, igt_i, ige_i, seq_s, sne_s, slt_s, lens_s, lenx_0, lenx_s, not_b, bb_e, bb_n, cv_i, pe_00, pe_0p, pe_p0, eqB_e, eqB_n, List.getElem?_cons_zero, List.getElem?_cons_succ, Nat.zero_add, Bool.not_true, Bool.not_false, decide_true, decide_false, Int.reduceBEq, Int.reduceBNe, Int.reduceLT, Int.reduceLE, Int.reduceGT, Int.reduceGE, Int.reduceNeg, BEq.rfl, bne_self_eq_false, ge_iff_le, gt_iff_lt]
      · rw [r5, e] at h0
        by_cases hmany : 64 ≤ m.fs.length
        · have : appM m at' b = (6, m) := by unfold appM; rw [if_neg he2, if_pos (.inr ⟨by rw [r6]; rfl, hmany⟩)]
          rw [this]
          refine ⟨H, L, c_store_Store_Append ?_, h, Go'.refl _ _ _⟩
          unfold s_store_Store_Append
          have d4 : decide ((64 : Int) ≤ (m.fs.length : Int)) = true := decide_eq_true (by omega)
          simp only [h0, hylen, hfree, d3, hmap, hlenm, d4, JN_0, JN_1, JN_2, JN_3, JN_4, JN_5, JN_6, JN_7, JN_8, JN_9, JN_10, JN_11, JN_12, JN_13, JN_14, JN_15, JN_16, JN_17, JN_18, JN_19, JN_20, JN_21, JN_22, JN_23, JN_24, B1_s, B2_s, BN_s, CD_t, CD_f, GO_tt, GO_ft, GO_tf, GO_ff, GO_ut, GO_uf, GD2_tt, GD2_ft, GD2_tf, GD2_ff, pk_t, pk_f, nilA_p, nilA_i, fa_p, fd_a, ex_t, iadd_i, isub_i, imul_i, ieq_i, ine_i, ilt_i, ile_i, igt_i, ige_i, seq_s, sne_s, slt_s, lens_s, lenx_0, lenx_s, not_b, bb_e, bb_n, cv_i, pe_00, pe_0p, pe_p0, eqB_e, eqB_n, List.getElem?_cons_zero, List.getElem?_cons_succ, Nat.zero_add, Bool.not_true, Bool.not_false, decide_true, decide_false, Int.reduceBEq, Int.reduceBNe, Int.reduceLT, Int.reduceLE, Int.reduceGT, Int.reduceGE, Int.reduceNeg, BEq.rfl, bne_self_eq_false, ge_iff_le, gt_iff_lt]
        · have d4 : decide ((64 : Int) ≤ (m.fs.length : Int)) = false := decide_eq_false (by omega)
          have hcm : appM m at' b = if burnB m = false then (11, burnM m) else (0, { burnM m with fs := m.fs ++ [⟨at', b, 0⟩] }) := by
            unfold appM; rw [if_neg he2, if_neg (by rw [r6]; simp; omega), r6]
          cases hB : burnB m with
          | false =>
            rw [hcm, if_pos hB]
            refine ⟨H1, L1, c_store_Store_Append ?_, b2, b3⟩
            unfold s_store_Store_Append
            simp only [h0, hylen, hfree, d3, hmap, hlenm, d4, b1, hB, JN_0, JN_1, JN_2, JN_3, JN_4, JN_5, JN_6, JN_7, JN_8, JN_9, JN_10, JN_11, JN_12, JN_13, JN_14, JN_15, JN_16, JN_17, JN_18, JN_19, JN_20, JN_21, JN_22, JN_23, JN_24, B1_s, B2_s, BN_s, CD_t, CD_f, GO_tt, GO_ft, GO_tf, GO_ff, GO_ut, GO_uf, GD2_tt, GD2_ft, GD2_tf, GD2_ff, pk_t, pk_f, nilA_p, nilA_i, fa_p, fd_a, ex_t, iadd_i, isub_i, imul_i, ieq_i, ine_i, ilt_i, ile_i, igt_i, ige_i, seq_s, sne_s, slt_s, lens_s, lenx_0, lenx_s, not_b, bb_e, bb_n, cv_i, pe_00, pe_0p, pe_p0, eqB_e, eqB_n, List.getElem?_cons_zero, List.getElem?_cons_succ, Nat.zero_add, Bool.not_true, Bool.not_false, decide_true, decide_false, Int.reduceBEq, Int.reduceBNe, Int.reduceLT, Int.reduceLE, Int.reduceGT, Int.reduceGE, Int.reduceNeg, BEq.rfl, bne_self_eq_false, ge_iff_le, gt_iff_lt]
          | true =>
            rw [hcm, if_neg (by simp [hB])]
            obtain ⟨e1, e2, e3, e4, e5, e6⟩ := b4 hB
            rw [e1] at b2 b3
            have hfl : fl [.slice0, (.int .i64 0)] [] = some [AV.slice0, .int .i64 ((0 : Nat) : Int)] := rfl
            obtain ⟨H2, n1, n2, n3, n4⟩ := bx_ok H1 81 (.agg [AV.slice0, .int .i64 ((0 : Nat) : Int)]) [AV.slice0, .int .i64 ((0 : Nat) : Int)] rfl (by simp)
            have b5 := b2.out n3 fun j _ q => by cases q
            have hlt := b2.lt
            have hmap2 := b5.ld_map
            have hne : ∀ y ∈ L.cs, y.f.nm ≠ (⟨at', [], 0⟩ : Fl).nm := r3
            obtain ⟨H3, f1, f2, f3⟩ := b5.addFile (id := H1.next) (sl := .slice0) (f := ⟨at', [], 0⟩) hne ⟨_, n2⟩ .nil (fun j hj => by
                simp only [FC.ids, rid, List.mem_singleton] at hj
                intro q
                have := hlt j q; omega) (by simp [FC.ids, rid]) (by simp) (fun c hc => by cases hc) (by simp only [List.length_nil]; rw [e3, e4]; omega) q2 (by rw [e3]; omega)
            have hx' : (⟨H1.next, .slice0, L.clk, ⟨at', [], 0⟩⟩ : FC) ∈ L.cs ++ [⟨H1.next, .slice0, L.clk, ⟨at', [], 0⟩⟩] := by simp
            obtain ⟨hg1, hg2⟩ := f2.file _ hx'
            have hl1 := hg1.ld (o := 0) rfl
            have hnextlt : ∀ j ∈ rid y, j < H1.next := fun j hj => Nat.lt_of_lt_of_le (hy.lt j hj) e2.1
            have hy1 : Rw H3 1 y (bs b) := ((hy.out e2 fun j hj q => hyd j hj (by rw [List.mem_singleton.1 q]; exact St.mem_p)).out n3 fun j _ q => by cases q).out f3 fun j hj q => hyd j hj (by rw [List.mem_singleton.1 q]; exact St.mem_mid)
            have hlen2 : ([] : List AV).length + (bs b).length ≤ 16777216 := by
              rw [bs_len]; simp only [List.length_nil]; omega
            obtain ⟨s', H4, a1, a2, a3, a4⟩ := append_ok (z := [.int .u8 0]) (l := []) hg2 hy1 (bs_one b) (by omega) hlen2
            rw [List.nil_append] at a2
            obtain ⟨H5, p1, p2, p3, p4⟩ := f2.put0 hx' a3 a2 a4
            have hsplit : L.cs ++ [(⟨H1.next, .slice0, L.clk, ⟨at', [], 0⟩⟩ : FC)] = L.cs ++ (⟨H1.next, .slice0, L.clk, ⟨at', [], 0⟩⟩ : FC) :: [] := rfl
            have hset := f2.setFile (f := ⟨at', b, 0⟩) hsplit r3 (fun y hy => by cases hy) rfl p3 (fun j hj => hj) p2 p4 a4 (rid_nd _) (Nat.zero_le _) hb (by
              have := f2.sum_set hsplit r3 (fun y hy => by cases hy) ⟨at', b, 0⟩
              simp only [sumB_app, sumB_cons, List.length_nil] at this ⊢
              rw [e3] at this ⊢
              rw [e4]
              have : sumB ([] : List Fl) = 0 := rfl
              omega)
            obtain ⟨s1, s2⟩ := hset
            have hfs : setF at' ⟨at', b, 0⟩ ((burnM m).fs ++ [(⟨at', [], 0⟩ : Fl)]) = m.fs ++ [⟨at', b, 0⟩] := by
              rw [e3]
              have : m.fs ++ [(⟨at', [], 0⟩ : Fl)] = (L.cs ++ (⟨H1.next, .slice0, L.clk, ⟨at', [], 0⟩⟩ : FC) :: []).map (·.f) := by rw [h.fs, List.map_append]; rfl
              rw [this, setF_split (at' := at') (x := ⟨H1.next, .slice0, L.clk, ⟨at', [], 0⟩⟩) (b := []) rfl r3 (fun y hy => by cases hy), h.fs]; rfl
            refine ⟨H5, _, c_store_Store_Append ?_, by
              have := s1
              simp only at this
              rw [hfs] at this
              exact this, ?_⟩
            · unfold s_store_Store_Append
              simp only [h0, hylen, hfree, d3, hmap, hlenm, d4, b1, hB, hfl, n1, hmap2, f1, hl1, a1, p1, JN_0, JN_1, JN_2, JN_3, JN_4, JN_5, JN_6, JN_7, JN_8, JN_9, JN_10, JN_11, JN_12, JN_13, JN_14, JN_15, JN_16, JN_17, JN_18, JN_19, JN_20, JN_21, JN_22, JN_23, JN_24, B1_s, B2_s, BN_s, CD_t, CD_f, GO_tt, GO_ft, GO_tf, GO_ff, GO_ut, GO_uf, GD2_tt, GD2_ft, GD2_tf, GD2_ff, pk_t, pk_f, nilA_p, nilA_i, fa_p, fd_a, ex_t, iadd_i, isub_i, imul_i, ieq_i, ine_i, ilt_i, ile_i, igt_i, ige_i, seq_s, sne_s, slt_s, lens_s, lenx_0, lenx_s, not_b, bb_e, bb_n, cv_i, pe_00, pe_0p, pe_p0, eqB_e, eqB_n, List.getElem?_cons_zero, List.getElem?_cons_succ, Nat.zero_add, Bool.not_true, Bool.not_false, decide_true, decide_false, Int.reduceBEq, Int.reduceBNe, Int.reduceLT, Int.reduceLE, Int.reduceGT, Int.reduceGE, Int.reduceNeg, BEq.rfl, bne_self_eq_false, ge_iff_le, gt_iff_lt]
            · have g1 : Go' p H1 L H3 { L with cs := L.cs ++ [⟨H1.next, .slice0, L.clk, ⟨at', [], 0⟩⟩], clk := L.clk + 1 } := by
                refine ⟨(n3.mono fun j hj => by cases hj).trans (f3.mono fun j hj => by rw [List.mem_singleton.1 hj]; exact St.mem_mid), fun j hj => ?_⟩
                unfold foot at hj
                rw [List.flatMap_append] at hj
                rcases List.mem_cons.1 hj with rfl | hj
                · exact .inl St.mem_p
                rcases List.mem_cons.1 hj with rfl | hj
                · exact .inl St.mem_mid
                rcases List.mem_append.1 hj with hj | hj
                · exact .inl (St.mem_keep hj)
                rcases List.mem_append.1 hj with hj | hj
                · obtain ⟨z, hz, hj⟩ := List.mem_flatMap.1 hj
                  exact .inl (St.mem_file hz hj)
                · simp only [List.flatMap_cons, List.flatMap_nil, List.append_nil, FC.ids, rid, List.mem_singleton] at hj
                  exact .inr (by omega)
              exact (b3.trans g1).trans s2
end
section
variable {H : Hp} {p : Nat} {m : SM} {L : Lay}
end
/-- a store that begins -/
theorem new_c (H : Hp) (room : Int) : (room < 1 ∨ 16777216 < room → cK (.func (.func 23) [] []) [.int .i64 room] H = some (.tuple [.ptr0, .int .i64 1], H)) ∧
    ∀ r : Nat, room = r → 1 ≤ r → r ≤ 16777216 → ∃ H' p L, cK (.func (.func 23) [] []) [.int .i64 room] H = some (.tuple [.ptr p 0, .int .i64 0], H') ∧ St H' p ⟨r, false, 0, [], []⟩ L ∧ Out [] H H' ∧ ∀ j ∈ foot p L, H.next ≤ j := by
  constructor
  · intro h
    refine c_store_New ?_
    unfold s_store_New
    by_cases h1 : room < 1
    · simp only [decide_eq_true h1, JN_0, JN_1, JN_2, JN_3, JN_4, JN_5, JN_6, JN_7, JN_8, JN_9, JN_10, JN_11, JN_12, JN_13, JN_14, JN_15, JN_16, JN_17, JN_18, JN_19, JN_20, JN_21, JN_22, JN_23, JN_24, B1_s, B2_s, BN_s, CD_t, CD_f, GO_tt, GO_ft, GO_tf, GO_ff, GO_ut, GO_uf, GD2_tt, GD2_ft, GD2_tf, GD2_ff, pk_t, pk_f, nilA_p, nilA_i, fa_p, fd_a, ex_t, iadd_i, isub_i, imul_i, ieq_i, ine_i, ilt_i, ile_i, igt_i, ige_i, seq_s, sne_s, slt_s, lens_s, lenx_0, lenx_s, not_b, bb_e, bb_n, cv_i, pe_00, pe_0p, pe_p0, eqB_e, eqB_n, List.getElem?_cons_zero, List.getElem?_cons_succ, Nat.zero_add, Bool.not_true, Bool.not_false, decide_true, decide_false, Int.reduceBEq, Int.reduceBNe, Int.reduceLT, Int.reduceLE, Int.reduceGT, Int.reduceGE, Int.reduceNeg, BEq.rfl, bne_self_eq_false, ge_iff_le, gt_iff_lt]
    · simp only [decide_eq_false h1, decide_eq_true (show (16777216 : Int) < room by omega), JN_0, JN_1, JN_2, JN_3, JN_4, JN_5, JN_6, JN_7, JN_8, JN_9, JN_10, JN_11, JN_12, JN_13, JN_14, JN_15, JN_16, JN_17, JN_18, JN_19, JN_20, JN_21, JN_22, JN_23, JN_24, B1_s, B2_s, BN_s, CD_t, CD_f, GO_tt, GO_ft, GO_tf, GO_ff, GO_ut, GO_uf, GD2_tt, GD2_ft, GD2_tf, GD2_ff, pk_t, pk_f, nilA_p, nilA_i, fa_p, fd_a, ex_t, iadd_i, isub_i, imul_i, ieq_i, ine_i, ilt_i, ile_i, igt_i, ige_i, seq_s, sne_s, slt_s, lens_s, lenx_0, lenx_s, not_b, bb_e, bb_n, cv_i, pe_00, pe_0p, pe_p0, eqB_e, eqB_n, List.getElem?_cons_zero, List.getElem?_cons_succ, Nat.zero_add, Bool.not_true, Bool.not_false, decide_true, decide_false, Int.reduceBEq, Int.reduceBNe, Int.reduceLT, Int.reduceLE, Int.reduceGT, Int.reduceGE, Int.reduceNeg, BEq.rfl, bne_self_eq_false, ge_iff_le, gt_iff_lt]
  · intro r hr h1 h2
    subst hr
    obtain ⟨H1, a1, a2, a3, a4⟩ := mk0_ok H
    have hfl : fl [(.int .i64 0), .map0, (.bool false), (.int .i64 0), .slice0] [(0, 1, AV.int .i64 (r : Int)), (1, 1, (.map H.next))] = some [.int .i64 (r : Int), .map H.next, .bool false, .int .i64 ((0 : Nat) : Int), .slice0] := rfl
    obtain ⟨H2, b1, b2, b3, b4⟩ := bx_ok H1 76 (.agg [.int .i64 (r : Int), .map H.next, .bool false, .int .i64 ((0 : Nat) : Int), .slice0]) _ rfl (by simp)
    have a2' := a2.out b3 fun q => by cases q
    refine ⟨H2, H1.next, ⟨H.next, 0, .slice0, []⟩, c_store_New ?_, ⟨⟨_, b2⟩, a2', (fun x hx => by cases hx), .nil, ?_, rfl, rfl, ⟨h2, Nat.zero_le _, (fun f hf => by cases hf), (fun f hf => by cases hf), by simp, List.nodup_nil, (fun f hf => by cases hf), by simp⟩⟩, a3.trans b3, fun j hj => ?_⟩
    · unfold s_store_New
      simp only [decide_eq_false (show ¬ (r : Int) < 1 by omega), decide_eq_false (show ¬ (16777216 : Int) < (r : Int) by omega), a1, hfl, b1, JN_0, JN_1, JN_2, JN_3, JN_4, JN_5, JN_6, JN_7, JN_8, JN_9, JN_10, JN_11, JN_12, JN_13, JN_14, JN_15, JN_16, JN_17, JN_18, JN_19, JN_20, JN_21, JN_22, JN_23, JN_24, B1_s, B2_s, BN_s, CD_t, CD_f, GO_tt, GO_ft, GO_tf, GO_ff, GO_ut, GO_uf, GD2_tt, GD2_ft, GD2_tf, GD2_ff, pk_t, pk_f, nilA_p, nilA_i, fa_p, fd_a, ex_t, iadd_i, isub_i, imul_i, ieq_i, ine_i, ilt_i, ile_i, igt_i, ige_i, seq_s, sne_s, slt_s, lens_s, lenx_0, lenx_s, not_b, bb_e, bb_n, cv_i, pe_00, pe_0p, pe_p0, eqB_e, eqB_n, List.getElem?_cons_zero, List.getElem?_cons_succ, Nat.zero_add, Bool.not_true, Bool.not_false, decide_true, decide_false, Int.reduceBEq, Int.reduceBNe, Int.reduceLT, Int.reduceLE, Int.reduceGT, Int.reduceGE, Int.reduceNeg, BEq.rfl, bne_self_eq_false, ge_iff_le, gt_iff_lt]
    · simp only [foot, rid, List.flatMap_nil, List.append_nil, List.nodup_cons, List.mem_singleton, List.not_mem_nil, not_false_eq_true, List.nodup_nil, and_true]
      omega
    · simp only [foot, rid, List.flatMap_nil, List.append_nil, List.mem_cons, List.not_mem_nil, or_false] at hj
      omega
end Go.Proofs.YtbdlbhlhnpblpaaGreatDoor.StC
namespace Go.Proofs.YtbdlbhlhnpblpaaGreatDoor.SgK
open Go Am Am.K WlEnv WlK
set_option linter.unusedVariables false
set_option linter.unusedSimpArgs false
theorem rem_n {a b : Nat} (hb : 0 < b) : irem (.int .i64 (a : Int)) (.int .i64 (b : Int)) = some (.int .i64 ((a % b : Nat) : Int)) := by
  rw [irem_i _ _ _ (by omega)]; rfl
theorem add_n {a b : Nat} (h : a + b ≤ 9223372036854775807) : iadd (.int .i64 (a : Int)) (.int .i64 (b : Int)) = some (.int .i64 ((a + b : Nat) : Int)) := by
  rw [iadd_i, wrap_i64 (by omega) (by omega)]; rfl
theorem w64 {a : Nat} (h : a ≤ 9223372036854775807) : IntKind.wrap .i64 (a : Int) = a := wrap_i64 (by omega) (by omega)
/-- a sum's two halves; one byte more -/
def pr (s : Nat) : Nat × Nat := (s % 65536, s / 65536)
def sm (p : Nat × Nat) : Nat := p.2 * 65536 + p.1
def ad (p : Nat × Nat) (v : Nat) : Nat × Nat := ((p.1 + v) % 65521, (p.2 + (p.1 + v) % 65521) % 65521)
def gd (s : Nat) : Bool := decide (s % 65536 < 65521) && decide (s / 65536 < 65521)
def onS (s : Nat) (l : List Nat) : Nat := sm (l.foldl ad (pr s))
theorem fold_lt : ∀ (l : List Nat) (p : Nat × Nat), p.1 < 65521 → p.2 < 65521 → (l.foldl ad p).1 < 65521 ∧ (l.foldl ad p).2 < 65521
  | [], p, h, k => ⟨h, k⟩
  | v :: l, p, h, k => fold_lt l (ad p v) (Nat.mod_lt _ (by decide)) (Nat.mod_lt _ (by decide))
theorem gd_lt {s : Nat} (h : gd s = true) : (pr s).1 < 65521 ∧ (pr s).2 < 65521 := by
  unfold gd at h
  rw [Bool.and_eq_true] at h
  exact ⟨of_decide_eq_true h.1, of_decide_eq_true h.2⟩
theorem onS_lt {s : Nat} (h : gd s = true) (l : List Nat) : onS s l < 4294967296 ∧ gd (onS s l) = true := by
  obtain ⟨a, b⟩ := fold_lt l (pr s) (gd_lt h).1 (gd_lt h).2
  unfold onS sm gd
  refine ⟨by omega, ?_⟩
  simp
  omega
theorem onS_app {s : Nat} (h : gd s = true) (a b : List Nat) : onS (onS s a) b = onS s (a ++ b) := by
  obtain ⟨x, y⟩ := fold_lt a (pr s) (gd_lt h).1 (gd_lt h).2
  have e : pr (onS s a) = a.foldl ad (pr s) := by
    unfold onS sm pr
    refine Prod.ext ?_ ?_ <;> simp only <;> unfold pr at x y <;> omega
  unfold onS
  rw [List.foldl_append]
  unfold onS at e
  rw [e]
theorem parts_c {H : Hp} (s : Nat) (h : s < 4294967296) : cK (.func (.func 57) [] []) [.int .u32 s] H = some (.tuple [.int .i64 ((pr s).1 : Nat), .int .i64 ((pr s).2 : Nat)], H) := by
  refine c_sum_parts ?_
  unfold s_sum_parts
  have e1 : iand (.int .u32 (s : Int)) (.int .u32 65535) = some (.int .u32 ((s % 65536 : Nat) : Int)) := mask_n (m := 16) h (by decide) (wrap_u rfl (Nat.lt_of_lt_of_le (Nat.mod_lt _ (by decide)) (by decide)))
  have e2 : ishr (.int .u32 (s : Int)) (.int .u64 16) = some (.int .u32 ((s / 65536 : Nat) : Int)) := ishr_n (b := 16)
  have w1 := w64 (a := s % 65536) (by omega)
  have w2 := w64 (a := s / 65536) (by omega)
  simp only [e1, e2, w1, w2, pr, JN_0, JN_1, JN_2, JN_3, JN_4, JN_5, JN_6, JN_7, JN_8, JN_9, JN_10, JN_11, JN_12, JN_13, JN_14, JN_15, JN_16, JN_17, JN_18, JN_19, JN_20, JN_21, JN_22, JN_23, JN_24, B1_s, B2_s, BN_s, CD_t, CD_f, GO_tt, GO_ft, GO_tf, GO_ff, GO_ut, GO_uf, GD2_tt, GD2_ft, GD2_tf, GD2_ff, pk_t, pk_f, nilA_p, nilA_i, fa_p, fd_a, ex_t, iadd_i, isub_i, imul_i, ieq_i, ine_i, ilt_i, ile_i, igt_i, ige_i, seq_s, sne_s, slt_s, lens_s, lenx_0, lenx_s, not_b, bb_e, bb_n, cv_i, pe_00, pe_0p, pe_p0, eqB_e, eqB_n, List.getElem?_cons_zero, List.getElem?_cons_succ, Nat.zero_add, Bool.not_true, Bool.not_false, decide_true, decide_false, Int.reduceBEq, Int.reduceBNe, Int.reduceLT, Int.reduceLE, Int.reduceGT, Int.reduceGE, Int.reduceNeg, BEq.rfl, bne_self_eq_false, ge_iff_le, gt_iff_lt]
theorem made_c {H : Hp} (p : Nat × Nat) (h1 : p.1 < 65521) (h2 : p.2 < 65521) : cK (.func (.func 58) [] []) [.int .i64 (p.1 : Nat), .int .i64 (p.2 : Nat)] H = some (.int .u32 ((sm p : Nat) : Int), H) := by
  obtain ⟨a, c⟩ := p
  simp only at h1 h2
  refine c_sum_made ?_
  unfold s_sum_made
  have r : ∀ x : Nat, x < 65521 → irem (.int .i64 (x : Int)) (.int .i64 65521) = some (.int .i64 (x : Int)) := fun x hx => by
    have := rem_n (a := x) (b := 65521) (by decide)
    rw [Nat.mod_eq_of_lt hx] at this
    exact this
  have d : ∀ x : Nat, x < 65521 → iadd (.int .i64 (x : Int)) (.int .i64 65521) = some (.int .i64 ((x + 65521 : Nat) : Int)) := fun x hx => add_n (b := 65521) (by omega)
  have r2 : ∀ x : Nat, x < 65521 → irem (.int .i64 ((x + 65521 : Nat) : Int)) (.int .i64 65521) = some (.int .i64 (x : Int)) := fun x hx => by
    have := rem_n (a := x + 65521) (b := 65521) (by decide)
    rw [Nat.add_mod_right, Nat.mod_eq_of_lt hx] at this
    exact this
  have w : ∀ x : Nat, x < 65521 → IntKind.wrap .u32 (x : Int) = x := fun x hx => wrap_u rfl (Nat.lt_trans hx (by decide))
  have e4 : ishl (.int .u32 (c : Int)) (.int .u64 16) = some (.int .u32 ((c * 65536 : Nat) : Int)) := by
    have := ishl_n (k := .u32) (j := .u64) (a := c) (b := 16)
    rw [wrap_u rfl (show c * 2 ^ min 16 IntKind.u32.bits < 2 ^ IntKind.u32.bits by show c * 65536 < 4294967296; omega)] at this
    exact this
  have e9 : ior (.int .u32 ((c * 65536 : Nat) : Int)) (.int .u32 (a : Int)) = some (.int .u32 ((c * 65536 + a : Nat) : Int)) := by
    have ho : c * 65536 ||| a = c * 65536 + a := by
      rw [Nat.or_comm]
      exact or_add (i := 16) (Nat.lt_trans h1 (by decide))
    have := ior_n (k := .u32) (a := c * 65536) (b := a) (by show c * 65536 < 4294967296; omega) (by show a < 4294967296; omega) (by rw [ho]; exact wrap_u rfl (by show c * 65536 + a < 4294967296; omega))
    rw [ho] at this
    exact this
  simp only [r a h1, r c h2, d a h1, d c h2, r2 a h1, r2 c h2, w a h1, w c h2, e4, e9, sm, JN_0, JN_1, JN_2, JN_3, JN_4, JN_5, JN_6, JN_7, JN_8, JN_9, JN_10, JN_11, JN_12, JN_13, JN_14, JN_15, JN_16, JN_17, JN_18, JN_19, JN_20, JN_21, JN_22, JN_23, JN_24, B1_s, B2_s, BN_s, CD_t, CD_f, GO_tt, GO_ft, GO_tf, GO_ff, GO_ut, GO_uf, GD2_tt, GD2_ft, GD2_tf, GD2_ff, pk_t, pk_f, nilA_p, nilA_i, fa_p, fd_a, ex_t, iadd_i, isub_i, imul_i, ieq_i, ine_i, ilt_i, ile_i, igt_i, ige_i, seq_s, sne_s, slt_s, lens_s, lenx_0, lenx_s, not_b, bb_e, bb_n, cv_i, pe_00, pe_0p, pe_p0, eqB_e, eqB_n, List.getElem?_cons_zero, List.getElem?_cons_succ, Nat.zero_add, Bool.not_true, Bool.not_false, decide_true, decide_false, Int.reduceBEq, Int.reduceBNe, Int.reduceLT, Int.reduceLE, Int.reduceGT, Int.reduceGE, Int.reduceNeg, BEq.rfl, bne_self_eq_false, ge_iff_le, gt_iff_lt]
theorem good_c {H : Hp} (s : Nat) (h : s < 4294967296) : cK (.func (.func 56) [] []) [.int .u32 s] H = some (.bool (gd s), H) := by
  refine c_sum_Good ?_
  unfold s_sum_Good
  have e := parts_c (H := H) s h
  have d1 : decide (((s % 65536 : Nat) : Int) < 65521) = decide (s % 65536 < 65521) := decide_eq_decide.2 (by omega)
  have d2 : decide (((s / 65536 : Nat) : Int) < 65521) = decide (s / 65536 < 65521) := decide_eq_decide.2 (by omega)
  unfold pr at e
  unfold gd
  simp only at e
  generalize decide (s % 65536 < 65521) = x at *
  generalize decide (s / 65536 < 65521) = y at *
  cases x <;> simp only [e, d1, d2, Bool.true_and, Bool.false_and, JN_0, JN_1, JN_2, JN_3, JN_4, JN_5, JN_6, JN_7, JN_8, JN_9, JN_10, JN_11, JN_12, JN_13, JN_14, JN_15, JN_16, JN_17, JN_18, JN_19, JN_20, JN_21, JN_22, JN_23, JN_24, B1_s, B2_s, BN_s, CD_t, CD_f, GO_tt, GO_ft, GO_tf, GO_ff, GO_ut, GO_uf, GD2_tt, GD2_ft, GD2_tf, GD2_ff, pk_t, pk_f, nilA_p, nilA_i, fa_p, fd_a, ex_t, iadd_i, isub_i, imul_i, ieq_i, ine_i, ilt_i, ile_i, igt_i, ige_i, seq_s, sne_s, slt_s, lens_s, lenx_0, lenx_s, not_b, bb_e, bb_n, cv_i, pe_00, pe_0p, pe_p0, eqB_e, eqB_n, List.getElem?_cons_zero, List.getElem?_cons_succ, Nat.zero_add, Bool.not_true, Bool.not_false, decide_true, decide_false, Int.reduceBEq, Int.reduceBNe, Int.reduceLT, Int.reduceLE, Int.reduceGT, Int.reduceGE, Int.reduceNeg, BEq.rfl, bne_self_eq_false, ge_iff_le, gt_iff_lt]
theorem on_loop {k : K.Fn 2} {H : Hp} {x : AV} {l : List Nat} (hx : Rw H 1 x (bs l)) (hb : ∀ b ∈ l, b < 256) (hl : l.length ≤ 4294967296) : ∀ (r : List Nat) (i : Nat) (p : Nat × Nat), l.drop i = r → p.1 < 65521 → p.2 < 65521 →
    l_sum_On JN GO cK k (.int .i64 (p.1 : Nat)) (.int .i64 (p.2 : Nat)) x (.int .i64 (l.length : Nat)) (.int .i64 (i : Nat)) H = k (.int .i64 ((r.foldl ad p).1 : Nat)) (.int .i64 ((r.foldl ad p).2 : Nat)) H
  | [], i, p, hr, h1, h2 => by
    rw [ql_sum_On]
    have : l.length ≤ i := by simpa using hr
    have d : decide (((i : Nat) : Int) < ((l.length : Nat) : Int)) = false := decide_eq_false (by omega)
    simp only [d, List.foldl_nil, JN_0, JN_1, JN_2, JN_3, JN_4, JN_5, JN_6, JN_7, JN_8, JN_9, JN_10, JN_11, JN_12, JN_13, JN_14, JN_15, JN_16, JN_17, JN_18, JN_19, JN_20, JN_21, JN_22, JN_23, JN_24, B1_s, B2_s, BN_s, CD_t, CD_f, GO_tt, GO_ft, GO_tf, GO_ff, GO_ut, GO_uf, GD2_tt, GD2_ft, GD2_tf, GD2_ff, pk_t, pk_f, nilA_p, nilA_i, fa_p, fd_a, ex_t, iadd_i, isub_i, imul_i, ieq_i, ine_i, ilt_i, ile_i, igt_i, ige_i, seq_s, sne_s, slt_s, lens_s, lenx_0, lenx_s, not_b, bb_e, bb_n, cv_i, pe_00, pe_0p, pe_p0, eqB_e, eqB_n, List.getElem?_cons_zero, List.getElem?_cons_succ, Nat.zero_add, Bool.not_true, Bool.not_false, decide_true, decide_false, Int.reduceBEq, Int.reduceBNe, Int.reduceLT, Int.reduceLE, Int.reduceGT, Int.reduceGE, Int.reduceNeg, BEq.rfl, bne_self_eq_false, ge_iff_le, gt_iff_lt]
  | v :: r, i, p, hr, h1, h2 => by
    have hi : i < l.length := by
      rcases Nat.lt_or_ge i l.length with h | h
      · exact h
      · rw [List.drop_eq_nil_of_le h] at hr; cases hr
    have hv : l[i]? = some v := by
      have := congrArg (fun z => z[0]?) hr
      simpa using this
    have hr' : l.drop (i + 1) = r := by
      rw [← List.drop_drop, hr]; rfl
    have hv' : (bs l)[i]? = some (.int .u8 (v : Int)) := by simp [bs, hv]
    have hv2 := hb v (List.mem_of_getElem? hv)
    obtain ⟨q, q1, q2⟩ := hx.ia1 hv' .i64
    have d : decide (((i : Nat) : Int) < ((l.length : Nat) : Int)) = true := decide_eq_true (by omega)
    have w1 := w64 (a := v) (by omega)
    have a1 := add_n (a := p.1) (b := v) (by omega)
    have m1 := rem_n (a := p.1 + v) (b := 65521) (by decide)
    have hm := Nat.mod_lt (p.1 + v) (show 0 < 65521 by decide)
    have a2 := add_n (a := p.2) (b := (p.1 + v) % 65521) (by omega)
    have m2 := rem_n (a := p.2 + (p.1 + v) % 65521) (b := 65521) (by decide)
    have a3 := add_n (a := i) (b := 1) (by omega)
    have ih := on_loop (k := k) hx hb hl r (i + 1) (ad p v) hr' (Nat.mod_lt _ (by decide)) (Nat.mod_lt _ (by decide))
    rw [ql_sum_On]
    rw [show (((65521 : Nat) : Int)) = 65521 from rfl] at m1 m2
    rw [show (((1 : Nat) : Int)) = 1 from rfl] at a3
    simp only [iadd_i] at a1 a2 a3
    simp only [d, q1, q2, w1, a1, m1, a2, m2, a3, JN_0, JN_1, JN_2, JN_3, JN_4, JN_5, JN_6, JN_7, JN_8, JN_9, JN_10, JN_11, JN_12, JN_13, JN_14, JN_15, JN_16, JN_17, JN_18, JN_19, JN_20, JN_21, JN_22, JN_23, JN_24, B1_s, B2_s, BN_s, CD_t, CD_f, GO_tt, GO_ft, GO_tf, GO_ff, GO_ut, GO_uf, GD2_tt, GD2_ft, GD2_tf, GD2_ff, pk_t, pk_f, nilA_p, nilA_i, fa_p, fd_a, ex_t, iadd_i, isub_i, imul_i, ieq_i, ine_i, ilt_i, ile_i, igt_i, ige_i, seq_s, sne_s, slt_s, lens_s, lenx_0, lenx_s, not_b, bb_e, bb_n, cv_i, pe_00, pe_0p, pe_p0, eqB_e, eqB_n, List.getElem?_cons_zero, List.getElem?_cons_succ, Nat.zero_add, Bool.not_true, Bool.not_false, decide_true, decide_false, Int.reduceBEq, Int.reduceBNe, Int.reduceLT, Int.reduceLE, Int.reduceGT, Int.reduceGE, Int.reduceNeg, BEq.rfl, bne_self_eq_false, ge_iff_le, gt_iff_lt]
    exact ih
theorem on_c {H : Hp} {x : AV} {l : List Nat} (hx : Rw H 1 x (bs l)) (hb : ∀ b ∈ l, b < 256) (hl : l.length ≤ 4294967296) {s : Nat} (hs : s < 4294967296) (hg : gd s = true) :
    cK (.func (.func 40) [] []) [.int .u32 s, x] H = some (.tuple [.int .u32 ((onS s l : Nat) : Int), .bool true], H) := by
  refine c_sum_On ?_
  unfold s_sum_On
  have e1 := good_c (H := H) s hs
  rw [hg] at e1
  have e2 := parts_c (H := H) s hs
  have hn := hx.len1
  rw [bs_len] at hn
  have hp := gd_lt hg
  have hf := fold_lt l (pr s) hp.1 hp.2
  have e3 := made_c (H := H) (l.foldl ad (pr s)) hf.1 hf.2
  have lp := fun (k : K.Fn 2) => on_loop (k := k) hx hb hl l 0 (pr s) rfl hp.1 hp.2
  rw [show (((0 : Nat) : Int)) = 0 from rfl] at lp
  simp only [e1, e2, hn, lp, e3, onS, JN_0, JN_1, JN_2, JN_3, JN_4, JN_5, JN_6, JN_7, JN_8, JN_9, JN_10, JN_11, JN_12, JN_13, JN_14, JN_15, JN_16, JN_17, JN_18, JN_19, JN_20, JN_21, JN_22, JN_23, JN_24, B1_s, B2_s, BN_s, CD_t, CD_f, GO_tt, GO_ft, GO_tf, GO_ff, GO_ut, GO_uf, GD2_tt, GD2_ft, GD2_tf, GD2_ff, pk_t, pk_f, nilA_p, nilA_i, fa_p, fd_a, ex_t, iadd_i, isub_i, imul_i, ieq_i, ine_i, ilt_i, ile_i, igt_i, ige_i, seq_s, sne_s, slt_s, lens_s, lenx_0, lenx_s, not_b, bb_e, bb_n, cv_i, pe_00, pe_0p, pe_p0, eqB_e, eqB_n, List.getElem?_cons_zero, List.getElem?_cons_succ, Nat.zero_add, Bool.not_true, Bool.not_false, decide_true, decide_false, Int.reduceBEq, Int.reduceBNe, Int.reduceLT, Int.reduceLE, Int.reduceGT, Int.reduceGE, Int.reduceNeg, BEq.rfl, bne_self_eq_false, ge_iff_le, gt_iff_lt]
theorem of_c {H : Hp} {x : AV} {l : List Nat} (hx : Rw H 1 x (bs l)) (hb : ∀ b ∈ l, b < 256) (hl : l.length ≤ 4294967296) :
    cK (.func (.func 41) [] []) [x] H = some (.int .u32 ((onS 1 l : Nat) : Int), H) := by
  refine c_sum_Of ?_
  unfold s_sum_Of
  have e1 := on_c hx hb hl (s := 1) (by decide) (by decide)
  rw [show (((1 : Nat) : Int)) = 1 from rfl] at e1
  simp only [e1, JN_0, JN_1, JN_2, JN_3, JN_4, JN_5, JN_6, JN_7, JN_8, JN_9, JN_10, JN_11, JN_12, JN_13, JN_14, JN_15, JN_16, JN_17, JN_18, JN_19, JN_20, JN_21, JN_22, JN_23, JN_24, B1_s, B2_s, BN_s, CD_t, CD_f, GO_tt, GO_ft, GO_tf, GO_ff, GO_ut, GO_uf, GD2_tt, GD2_ft, GD2_tf, GD2_ff, pk_t, pk_f, nilA_p, nilA_i, fa_p, fd_a, ex_t, iadd_i, isub_i, imul_i, ieq_i, ine_i, ilt_i, ile_i, igt_i, ige_i, seq_s, sne_s, slt_s, lens_s, lenx_0, lenx_s, not_b, bb_e, bb_n, cv_i, pe_00, pe_0p, pe_p0, eqB_e, eqB_n, List.getElem?_cons_zero, List.getElem?_cons_succ, Nat.zero_add, Bool.not_true, Bool.not_false, decide_true, decide_false, Int.reduceBEq, Int.reduceBNe, Int.reduceLT, Int.reduceLE, Int.reduceGT, Int.reduceGE, Int.reduceNeg, BEq.rfl, bne_self_eq_false, ge_iff_le, gt_iff_lt]
theorem off_c {H : Hp} (s : Nat) (h : s < 18446744073709551616) : cK (.func (.func 68) [] []) [.int .u64 s] H = some (.int .i64 ((s % 17592186044416 : Nat) : Int), H) := by
  refine c__stamp_Stamp_Off ?_
  unfold s__stamp_Stamp_Off
  have e1 : iand (.int .u64 (s : Int)) (.int .u64 17592186044415) = some (.int .u64 ((s % 17592186044416 : Nat) : Int)) := mask_n (m := 44) h (by decide) (wrap_u rfl (Nat.lt_of_lt_of_le (Nat.mod_lt _ (by decide)) (by decide)))
  have w1 := w64 (a := s % 17592186044416) (by omega)
  simp only [e1, w1, JN_0, JN_1, JN_2, JN_3, JN_4, JN_5, JN_6, JN_7, JN_8, JN_9, JN_10, JN_11, JN_12, JN_13, JN_14, JN_15, JN_16, JN_17, JN_18, JN_19, JN_20, JN_21, JN_22, JN_23, JN_24, B1_s, B2_s, BN_s, CD_t, CD_f, GO_tt, GO_ft, GO_tf, GO_ff, GO_ut, GO_uf, GD2_tt, GD2_ft, GD2_tf, GD2_ff, pk_t, pk_f, nilA_p, nilA_i, fa_p, fd_a, ex_t, iadd_i, isub_i, imul_i, ieq_i, ine_i, ilt_i, ile_i, igt_i, ige_i, seq_s, sne_s, slt_s, lens_s, lenx_0, lenx_s, not_b, bb_e, bb_n, cv_i, pe_00, pe_0p, pe_p0, eqB_e, eqB_n, List.getElem?_cons_zero, List.getElem?_cons_succ, Nat.zero_add, Bool.not_true, Bool.not_false, decide_true, decide_false, Int.reduceBEq, Int.reduceBNe, Int.reduceLT, Int.reduceLE, Int.reduceGT, Int.reduceGE, Int.reduceNeg, BEq.rfl, bne_self_eq_false, ge_iff_le, gt_iff_lt]
theorem epoch_c {H : Hp} (s : Nat) (h : s < 18446744073709551616) : cK (.func (.func 17) [] []) [.int .u64 s] H = some (.int .i64 ((s / 17592186044416 : Nat) : Int), H) := by
  refine c__stamp_Stamp_Epoch ?_
  unfold s__stamp_Stamp_Epoch
  have e1 : ishr (.int .u64 (s : Int)) (.int .u64 44) = some (.int .u64 ((s / 17592186044416 : Nat) : Int)) := ishr_n (b := 44)
  have w1 := w64 (a := s / 17592186044416) (by omega)
  simp only [e1, w1, JN_0, JN_1, JN_2, JN_3, JN_4, JN_5, JN_6, JN_7, JN_8, JN_9, JN_10, JN_11, JN_12, JN_13, JN_14, JN_15, JN_16, JN_17, JN_18, JN_19, JN_20, JN_21, JN_22, JN_23, JN_24, B1_s, B2_s, BN_s, CD_t, CD_f, GO_tt, GO_ft, GO_tf, GO_ff, GO_ut, GO_uf, GD2_tt, GD2_ft, GD2_tf, GD2_ff, pk_t, pk_f, nilA_p, nilA_i, fa_p, fd_a, ex_t, iadd_i, isub_i, imul_i, ieq_i, ine_i, ilt_i, ile_i, igt_i, ige_i, seq_s, sne_s, slt_s, lens_s, lenx_0, lenx_s, not_b, bb_e, bb_n, cv_i, pe_00, pe_0p, pe_p0, eqB_e, eqB_n, List.getElem?_cons_zero, List.getElem?_cons_succ, Nat.zero_add, Bool.not_true, Bool.not_false, decide_true, decide_false, Int.reduceBEq, Int.reduceBNe, Int.reduceLT, Int.reduceLE, Int.reduceGT, Int.reduceGE, Int.reduceNeg, BEq.rfl, bne_self_eq_false, ge_iff_le, gt_iff_lt]
theorem bts_wrap (n : Nat) (h : n < 18446744073709551616) : bts .i64 (IntKind.wrap .i64 (n : Int)) = n := by
  unfold bts IntKind.wrap
  simp [IntKind.bits, IntKind.signed]
  omega
theorem wrap_uw (n : Nat) (h : n < 18446744073709551616) : IntKind.wrap .u64 (IntKind.wrap .i64 (n : Int)) = n := by
  unfold IntKind.wrap
  simp [IntKind.bits, IntKind.signed]
  omega
theorem pack_c {H : Hp} (e o : Nat) (he : e ≤ 1048575) (ho : o ≤ 17592186044415) : cK (.func (.func 24) [] []) [.int .i64 e, .int .i64 o] H = some (.tuple [.int .u64 ((e * 17592186044416 + o : Nat) : Int), .bool true], H) := by
  refine c_stamp_Pack ?_
  unfold s_stamp_Pack
  have d1 : decide (((e : Nat) : Int) < 0) = false := decide_eq_false (by omega)
  have d2 : decide (1048575 < ((e : Nat) : Int)) = false := decide_eq_false (by omega)
  have d3 : decide (((o : Nat) : Int) < 0) = false := decide_eq_false (by omega)
  have d4 : decide (17592186044415 < ((o : Nat) : Int)) = false := decide_eq_false (by omega)
  have hh : e * 17592186044416 ||| o = e * 17592186044416 + o := by
    rw [Nat.or_comm]
    exact or_add (i := 44) (Nat.lt_of_le_of_lt ho (by decide))
  have e1 : ishl (.int .i64 (e : Int)) (.int .u64 44) = some (.int .i64 (IntKind.wrap .i64 ((e * 17592186044416 : Nat) : Int))) := ishl_n (k := .i64) (j := .u64) (a := e) (b := 44)
  have e2 : ior (.int .i64 (IntKind.wrap .i64 ((e * 17592186044416 : Nat) : Int))) (.int .i64 (o : Int)) = some (.int .i64 (IntKind.wrap .i64 ((e * 17592186044416 + o : Nat) : Int))) := by
    rw [← hh]
    have q := bts_nat (k := .i64) (n := o) (by show o < 18446744073709551616; omega)
    unfold ior ii
    simp only [if_true, bts_wrap (e * 17592186044416) (by omega), q]
  have w1 := wrap_uw (e * 17592186044416 + o) (by omega)
  simp only [d1, d2, d3, d4, e1, e2, w1, JN_0, JN_1, JN_2, JN_3, JN_4, JN_5, JN_6, JN_7, JN_8, JN_9, JN_10, JN_11, JN_12, JN_13, JN_14, JN_15, JN_16, JN_17, JN_18, JN_19, JN_20, JN_21, JN_22, JN_23, JN_24, B1_s, B2_s, BN_s, CD_t, CD_f, GO_tt, GO_ft, GO_tf, GO_ff, GO_ut, GO_uf, GD2_tt, GD2_ft, GD2_tf, GD2_ff, pk_t, pk_f, nilA_p, nilA_i, fa_p, fd_a, ex_t, iadd_i, isub_i, imul_i, ieq_i, ine_i, ilt_i, ile_i, igt_i, ige_i, seq_s, sne_s, slt_s, lens_s, lenx_0, lenx_s, not_b, bb_e, bb_n, cv_i, pe_00, pe_0p, pe_p0, eqB_e, eqB_n, List.getElem?_cons_zero, List.getElem?_cons_succ, Nat.zero_add, Bool.not_true, Bool.not_false, decide_true, decide_false, Int.reduceBEq, Int.reduceBNe, Int.reduceLT, Int.reduceLE, Int.reduceGT, Int.reduceGE, Int.reduceNeg, BEq.rfl, bne_self_eq_false, ge_iff_le, gt_iff_lt]
/-- bytes of a number, the low ones first -/
def le : Nat → Nat → List Nat
  | 0, _ => []
  | n + 1, v => v % 256 :: le n (v / 256)
/-- and back -/
def ud : List Nat → Nat
  | [] => 0
  | v :: r => v + 256 * ud r
theorem le_len : ∀ n v, (le n v).length = n
  | 0, v => rfl
  | n + 1, v => by simp [le, le_len n]
theorem le_byte : ∀ n v, ∀ b ∈ le n v, b < 256
  | 0, v, b, h => by cases h
  | n + 1, v, b, h => by
    rcases List.mem_cons.1 h with rfl | h
    · exact Nat.mod_lt _ (by decide)
    · exact le_byte n _ b h
theorem fl1 (v : AV) (hv : cellsV v = some [v]) : fl [.int .u8 0] [(0, 1, v)] = some [v] := by
  simp [fl, hv]
theorem rep_z : ∀ n, rep n [.int .u8 0] = List.replicate n (AV.int .u8 0)
  | 0 => rfl
  | n + 1 => by
    have ih := rep_z n
    unfold rep at ih ⊢
    rw [List.replicate_succ, List.flatten_cons, ih, List.replicate_succ]
    rfl
theorem apn_z (n : Nat) (H : Hp) (hn : ((n : Nat) : Int) < 16777216) : apn 1 [.int .u8 0] true (.int .i64 (n : Nat)) H = some (n, List.replicate n (AV.int .u8 0)) := by
  have hc : (0 : Int) ≤ (n : Nat) ∧ ((n : Nat) : Int) < 16777216 := ⟨Int.natCast_nonneg n, hn⟩
  simp only [apn]
  rw [if_pos hc, Int.toNat_natCast, rep_z]
theorem app_eq {es n : Nat} {z : List AV} {zeros : Bool} {x : AV} {H : Hp} {new : List AV} (el : Nat) (s : AV) (h : apn es z zeros x H = some (n, new)) : app' el es z zeros s x H = ap2 el es n new s H := by
  unfold app'
  rw [h]
theorem appz_ok {H : Hp} {el n : Nat} {s : AV} {l : List AV} (h : Ow H el 1 s l) (hlen : l.length + n ≤ 16777215) :
    ∃ s' H', app' el 1 [.int .u8 0] true s (.int .i64 (n : Nat)) H = some (s', H') ∧ Ow H' el 1 s' (l ++ List.replicate n (.int .u8 0)) ∧ Out (rid s) H H' ∧ (∀ j ∈ rid s', j ∈ rid s ∨ H.next ≤ j) := by
  have hl1 : (List.replicate n (AV.int .u8 0)).length = n * 1 := by rw [List.length_replicate, Nat.mul_one]
  have hl2 : l.length + (List.replicate n (AV.int .u8 0)).length ≤ 16777216 := by rw [List.length_replicate]; omega
  have ho : ∀ v ∈ List.replicate n (AV.int .u8 0), oneC v = true := by
    intro v hv
    rw [List.eq_of_mem_replicate hv]
    rfl
  obtain ⟨s', H', h1, h2⟩ := ap2_ok (n := n) h hl1 ho (by omega) hl2
  exact ⟨s', H', (app_eq el s (apn_z n H (by omega))).trans h1, h2⟩
theorem number_loop {v n : Nat} (hv : v < 18446744073709551616) (hn : n ≤ 8) {k : K.Fn 1} : ∀ (r i : Nat) (s : AV) (l : List Nat) (H : Hp), i + r = n → Ow H 5 1 s (bs l) → (∀ j ∈ rid s, j < H.next) → l.length + r ≤ 1000000 →
    ∃ s' H', l_frame_number JN GO cK k s (.int .u64 v) (.int .i64 n) (.int .i64 i) H = k s' H' ∧ Ow H' 5 1 s' (bs (l ++ le r (v / 256 ^ i))) ∧ Out (rid s) H H' ∧ (∀ j ∈ rid s', j ∈ rid s ∨ H.next ≤ j)
  | 0, i, s, l, H, hi, hs, hlt, hl => by
    refine ⟨s, H, ?_, ?_, Out.refl _ _, fun j hj => .inl hj⟩
    · rw [ql_frame_number]
      have d : decide (((i : Nat) : Int) < ((n : Nat) : Int)) = false := decide_eq_false (by omega)
      simp only [d, JN_0, JN_1, JN_2, JN_3, JN_4, JN_5, JN_6, JN_7, JN_8, JN_9, JN_10, JN_11, JN_12, JN_13, JN_14, JN_15, JN_16, JN_17, JN_18, JN_19, JN_20, JN_21, JN_22, JN_23, JN_24, B1_s, B2_s, BN_s, CD_t, CD_f, GO_tt, GO_ft, GO_tf, GO_ff, GO_ut, GO_uf, GD2_tt, GD2_ft, GD2_tf, GD2_ff, pk_t, pk_f, nilA_p, nilA_i, fa_p, fd_a, ex_t, iadd_i, isub_i, imul_i, ieq_i, ine_i, ilt_i, ile_i, igt_i, ige_i, seq_s, sne_s, slt_s, lens_s, lenx_0, lenx_s, not_b, bb_e, bb_n, cv_i, pe_00, pe_0p, pe_p0, eqB_e, eqB_n, List.getElem?_cons_zero, List.getElem?_cons_succ, Nat.zero_add, Bool.not_true, Bool.not_false, decide_true, decide_false, Int.reduceBEq, Int.reduceBNe, Int.reduceLT, Int.reduceLE, Int.reduceGT, Int.reduceGE, Int.reduceNeg, BEq.rfl, bne_self_eq_false, ge_iff_le, gt_iff_lt]
    · rw [le, List.append_nil]; exact hs
  | r + 1, i, s, l, H, hi, hs, hlt, hl => by
    have d : decide (((i : Nat) : Int) < ((n : Nat) : Int)) = true := decide_eq_true (by omega)
    have m1 : imul (.int .i64 8) (.int .i64 (i : Nat)) = some (.int .i64 ((8 * i : Nat) : Int)) := by
      rw [imul_i, wrap_i64 (by omega) (by omega)]; rfl
    have m2 : ishr (.int .u64 (v : Nat)) (.int .i64 ((8 * i : Nat) : Int)) = some (.int .u64 ((v / 256 ^ i : Nat) : Int)) := by
      rw [ishr_n, show min (8 * i) IntKind.u64.bits = 8 * i from Nat.min_eq_left (by show 8 * i ≤ 64; omega), Nat.pow_mul]
    have m3 : IntKind.wrap .u8 ((v / 256 ^ i : Nat) : Int) = ((v / 256 ^ i % 256 : Nat) : Int) := wrap_mod rfl _
    have hf := fl1 (.int .u8 ((v / 256 ^ i % 256 : Nat) : Int)) rfl
    obtain ⟨H1, n1, n2, n3, n4⟩ := newCells_ok H [.int .u8 ((v / 256 ^ i % 256 : Nat) : Int)] 5 0 (by simp)
    have hs1 := hs.out n3 fun j hj q => by cases q
    have hx : Rw H1 1 (.slice H.next 0 1 1 true 1) (bs [v / 256 ^ i % 256]) := .mk n2.ro rfl (Nat.le_refl _) rfl
    obtain ⟨s', H', a1, a2, a3, a4⟩ := append_ok (z := [.int .u8 0]) hs1 hx (bs_one _) (by omega) (by rw [bs_len, bs_len]; simp; omega)
    have hlt' : ∀ j ∈ rid s', j < H'.next := a2.rw.lt
    rw [← bs_app] at a2
    have e3 : iadd (.int .i64 (i : Nat)) (.int .i64 1) = some (.int .i64 ((i + 1 : Nat) : Int)) := add_n (b := 1) (by omega)
    obtain ⟨s2, H2, b1, b2, b3, b4⟩ := number_loop hv hn (k := k) r (i + 1) s' (l ++ [v / 256 ^ i % 256]) H' (by omega) a2 hlt' (by simp; omega)
    refine ⟨s2, H2, ?_, ?_, ?_, ?_⟩
    · rw [ql_frame_number]
      rw [iadd_i] at e3
      simp only [d, m1, m2, m3, hf, n1, a1, e3, JN_0, JN_1, JN_2, JN_3, JN_4, JN_5, JN_6, JN_7, JN_8, JN_9, JN_10, JN_11, JN_12, JN_13, JN_14, JN_15, JN_16, JN_17, JN_18, JN_19, JN_20, JN_21, JN_22, JN_23, JN_24, B1_s, B2_s, BN_s, CD_t, CD_f, GO_tt, GO_ft, GO_tf, GO_ff, GO_ut, GO_uf, GD2_tt, GD2_ft, GD2_tf, GD2_ff, pk_t, pk_f, nilA_p, nilA_i, fa_p, fd_a, ex_t, iadd_i, isub_i, imul_i, ieq_i, ine_i, ilt_i, ile_i, igt_i, ige_i, seq_s, sne_s, slt_s, lens_s, lenx_0, lenx_s, not_b, bb_e, bb_n, cv_i, pe_00, pe_0p, pe_p0, eqB_e, eqB_n, List.getElem?_cons_zero, List.getElem?_cons_succ, Nat.zero_add, Bool.not_true, Bool.not_false, decide_true, decide_false, Int.reduceBEq, Int.reduceBNe, Int.reduceLT, Int.reduceLE, Int.reduceGT, Int.reduceGE, Int.reduceNeg, BEq.rfl, bne_self_eq_false, ge_iff_le, gt_iff_lt]
      exact b1
    · rw [le]
      rw [List.append_assoc] at b2
      rw [Nat.div_div_eq_div_mul, ← Nat.pow_succ]
      exact b2
    · have h1 : Out (rid s) H H' := (n3.mono fun j hj => by cases hj).trans a3
      exact h1.then b3 fun j hj => (a4 j hj).imp id fun q => by omega
    · intro j hj
      rcases b4 j hj with q | q
      · rcases a4 j q with q | q
        · exact .inl q
        · exact .inr (by omega)
      · have := a3.1
        exact .inr (by omega)
theorem number_c {v n : Nat} (hv : v < 18446744073709551616) (hn : n ≤ 8) {s : AV} {l : List Nat} {H : Hp} (hs : Ow H 5 1 s (bs l)) (hl : l.length + n ≤ 1000000) :
    ∃ s' H', cK (.func (.func 39) [] []) [s, .int .u64 v, .int .i64 n] H = some (s', H') ∧ Ow H' 5 1 s' (bs (l ++ le n v)) ∧ Out (rid s) H H' ∧ (∀ j ∈ rid s', j ∈ rid s ∨ H.next ≤ j) := by
  obtain ⟨s', H', h1, h2, h3, h4⟩ := number_loop hv hn (k := fun x h => some (x, h)) n 0 s l H (by omega) hs hs.rw.lt hl
  refine ⟨s', H', c_frame_number ?_, by simpa using h2, h3, h4⟩
  unfold s_frame_number
  rw [show (((0 : Nat) : Int)) = 0 from rfl] at h1
  simp only [JN_0, JN_1, JN_2, JN_3, JN_4, JN_5, JN_6, JN_7, JN_8, JN_9, JN_10, JN_11, JN_12, JN_13, JN_14, JN_15, JN_16, JN_17, JN_18, JN_19, JN_20, JN_21, JN_22, JN_23, JN_24, B1_s, B2_s, BN_s, CD_t, CD_f, GO_tt, GO_ft, GO_tf, GO_ff, GO_ut, GO_uf, GD2_tt, GD2_ft, GD2_tf, GD2_ff, pk_t, pk_f, nilA_p, nilA_i, fa_p, fd_a, ex_t, iadd_i, isub_i, imul_i, ieq_i, ine_i, ilt_i, ile_i, igt_i, ige_i, seq_s, sne_s, slt_s, lens_s, lenx_0, lenx_s, not_b, bb_e, bb_n, cv_i, pe_00, pe_0p, pe_p0, eqB_e, eqB_n, List.getElem?_cons_zero, List.getElem?_cons_succ, Nat.zero_add, Bool.not_true, Bool.not_false, decide_true, decide_false, Int.reduceBEq, Int.reduceBNe, Int.reduceLT, Int.reduceLE, Int.reduceGT, Int.reduceGE, Int.reduceNeg, BEq.rfl, bne_self_eq_false, ge_iff_le, gt_iff_lt]
  exact h1
theorem grow_c {H : Hp} (n : Nat) (hn : n ≤ 16777215) : ∃ y H', cK (.func (.func 59) [] []) [.slice0, .int .i64 n] H = some (y, H') ∧ Ow H' 5 1 y [] ∧ Out [] H H' ∧ (∀ j ∈ rid y, H.next ≤ j) := by
  have c0 : ∀ H : Hp, builtinA P .cap #[28] [.slice0] H = some (.int .i64 0, H) := fun H => by kernel_rfl
  have d0 : decide (((n : Nat) : Int) < 0) = false := decide_eq_false (by omega)
  have w0 := w64 (a := n) (by omega)
  by_cases h : n = 0
  · subst h
    refine ⟨.slice0, H, c_slices_Grow___byte_byte_ ?_, .nil, Out.refl _ _, fun j hj => by cases hj⟩
    unfold s_slices_Grow___byte_byte_
    have w00 : IntKind.wrap .i64 0 = 0 := by decide
    rw [show (((0 : Nat) : Int)) = 0 from rfl] at *
    simp only [c0, d0, w00, Int.sub_self, Int.sub_zero, JN_0, JN_1, JN_2, JN_3, JN_4, JN_5, JN_6, JN_7, JN_8, JN_9, JN_10, JN_11, JN_12, JN_13, JN_14, JN_15, JN_16, JN_17, JN_18, JN_19, JN_20, JN_21, JN_22, JN_23, JN_24, B1_s, B2_s, BN_s, CD_t, CD_f, GO_tt, GO_ft, GO_tf, GO_ff, GO_ut, GO_uf, GD2_tt, GD2_ft, GD2_tf, GD2_ff, pk_t, pk_f, nilA_p, nilA_i, fa_p, fd_a, ex_t, iadd_i, isub_i, imul_i, ieq_i, ine_i, ilt_i, ile_i, igt_i, ige_i, seq_s, sne_s, slt_s, lens_s, lenx_0, lenx_s, not_b, bb_e, bb_n, cv_i, pe_00, pe_0p, pe_p0, eqB_e, eqB_n, List.getElem?_cons_zero, List.getElem?_cons_succ, Nat.zero_add, Bool.not_true, Bool.not_false, decide_true, decide_false, Int.reduceBEq, Int.reduceBNe, Int.reduceLT, Int.reduceLE, Int.reduceGT, Int.reduceGE, Int.reduceNeg, BEq.rfl, bne_self_eq_false, ge_iff_le, gt_iff_lt]
  · have d1 : decide (0 < ((n : Nat) : Int)) = true := decide_eq_true (by omega)
    obtain ⟨x', s1, s2, s3⟩ := sll_ow (n := 0) (a := 0) (b := 0) (Ow.nil (H := H) (el := 5) (es := 1)) rfl (by omega) (lo := none) (hi := some (.int .i64 ((0 : Nat) : Int))) (Nat.le_refl _) (Nat.le_refl _) (Bd.no 0) (Bd.yes _ _ _)
    have s2' : Ow H 5 1 x' [] := by simpa using s2
    obtain ⟨y, H', a1, a2, a3, a4⟩ := appz_ok (n := n) s2' (by simp; omega)
    obtain ⟨z, t1, t2, t3⟩ := sll_ow (n := n) (a := 0) (b := 0) a2 (by simp) (by omega) (lo := none) (hi := some (.int .i64 ((0 : Nat) : Int))) (Nat.le_refl _) (Nat.zero_le _) (Bd.no 0) (Bd.yes _ _ _)
    have hx : ∀ j ∈ rid x', False := fun j hj => by have := s3 j hj; cases this
    refine ⟨z, H', c_slices_Grow___byte_byte_ ?_, by simpa using t2, ⟨a3.1, fun j hj _ => a3.2 j hj fun q => hx j q⟩, fun j hj => (a4 j (t3 j hj)).elim (fun q => (hx j q).elim) id⟩
    unfold s_slices_Grow___byte_byte_
    have w00 : IntKind.wrap .i64 0 = 0 := by decide
    rw [show (((0 : Nat) : Int)) = 0 from rfl] at s1 t1
    simp only [c0, d0, d1, w00, w0, s1, a1, t1, Int.sub_self, Int.sub_zero, JN_0, JN_1, JN_2, JN_3, JN_4, JN_5, JN_6, JN_7, JN_8, JN_9, JN_10, JN_11, JN_12, JN_13, JN_14, JN_15, JN_16, JN_17, JN_18, JN_19, JN_20, JN_21, JN_22, JN_23, JN_24, B1_s, B2_s, BN_s, CD_t, CD_f, GO_tt, GO_ft, GO_tf, GO_ff, GO_ut, GO_uf, GD2_tt, GD2_ft, GD2_tf, GD2_ff, pk_t, pk_f, nilA_p, nilA_i, fa_p, fd_a, ex_t, iadd_i, isub_i, imul_i, ieq_i, ine_i, ilt_i, ile_i, igt_i, ige_i, seq_s, sne_s, slt_s, lens_s, lenx_0, lenx_s, not_b, bb_e, bb_n, cv_i, pe_00, pe_0p, pe_p0, eqB_e, eqB_n, List.getElem?_cons_zero, List.getElem?_cons_succ, Nat.zero_add, Bool.not_true, Bool.not_false, decide_true, decide_false, Int.reduceBEq, Int.reduceBNe, Int.reduceLT, Int.reduceLE, Int.reduceGT, Int.reduceGE, Int.reduceNeg, BEq.rfl, bne_self_eq_false, ge_iff_le, gt_iff_lt]
theorem clone_c {H : Hp} {x : AV} {l : List Nat} (hx : Rw H 1 x (bs l)) (hl : l.length ≤ 16777216) : ∃ y H', cK (.func (.func 25) [] []) [x] H = some (y, H') ∧ Ow H' 5 1 y (bs l) ∧ Out [] H H' ∧ (∀ j ∈ rid y, H.next ≤ j) := by
  obtain ⟨H1, n1, n2, n3, n4⟩ := newCells_ok H [] 5 0 (by simp)
  have hx1 := hx.out n3 fun j hj q => by cases q
  obtain ⟨y, H', a1, a2, a3, a4⟩ := append_ok (z := [.int .u8 0]) (s := .slice H.next 0 0 0 true 1) (l := []) (el := 5) .emp hx1 (bs_one _) (by omega) (by simpa [bs_len] using hl)
  have hr : rid (.slice H.next 0 0 0 true 1) = [] := rfl
  rw [hr] at a3 a4
  generalize bs l = m at *
  cases hx with
  | nil =>
    refine ⟨.slice0, H, c_slices_Clone___byte_byte_ ?_, ?_, Out.refl _ _, fun j hj => by cases hj⟩
    · unfold s_slices_Clone___byte_byte_
      simp only [gA_e0, IFT_t, nilS_t Tryz.underlying28, JN_0, JN_1, JN_2, JN_3, JN_4, JN_5, JN_6, JN_7, JN_8, JN_9, JN_10, JN_11, JN_12, JN_13, JN_14, JN_15, JN_16, JN_17, JN_18, JN_19, JN_20, JN_21, JN_22, JN_23, JN_24, B1_s, B2_s, BN_s, CD_t, CD_f, GO_tt, GO_ft, GO_tf, GO_ff, GO_ut, GO_uf, GD2_tt, GD2_ft, GD2_tf, GD2_ff, pk_t, pk_f, nilA_p, nilA_i, fa_p, fd_a, ex_t, iadd_i, isub_i, imul_i, ieq_i, ine_i, ilt_i, ile_i, igt_i, ige_i, seq_s, sne_s, slt_s, lens_s, lenx_0, lenx_s, not_b, bb_e, bb_n, cv_i, pe_00, pe_0p, pe_p0, eqB_e, eqB_n, List.getElem?_cons_zero, List.getElem?_cons_succ, Nat.zero_add, Bool.not_true, Bool.not_false, decide_true, decide_false, Int.reduceBEq, Int.reduceBNe, Int.reduceLT, Int.reduceLE, Int.reduceGT, Int.reduceGE, Int.reduceNeg, BEq.rfl, bne_self_eq_false, ge_iff_le, gt_iff_lt]
    · exact .nil
  | emp =>
    refine ⟨y, H', c_slices_Clone___byte_byte_ ?_, by simpa using a2, n3.trans a3, fun j hj => (a4 j hj).elim (fun q => by cases q) fun q => by omega⟩
    unfold s_slices_Clone___byte_byte_
    simp only [gA_es, IFT_t, nilS_f Tryz.underlying28, fl_nil, n1, a1, JN_0, JN_1, JN_2, JN_3, JN_4, JN_5, JN_6, JN_7, JN_8, JN_9, JN_10, JN_11, JN_12, JN_13, JN_14, JN_15, JN_16, JN_17, JN_18, JN_19, JN_20, JN_21, JN_22, JN_23, JN_24, B1_s, B2_s, BN_s, CD_t, CD_f, GO_tt, GO_ft, GO_tf, GO_ff, GO_ut, GO_uf, GD2_tt, GD2_ft, GD2_tf, GD2_ff, pk_t, pk_f, nilA_p, nilA_i, fa_p, fd_a, ex_t, iadd_i, isub_i, imul_i, ieq_i, ine_i, ilt_i, ile_i, igt_i, ige_i, seq_s, sne_s, slt_s, lens_s, lenx_0, lenx_s, not_b, bb_e, bb_n, cv_i, pe_00, pe_0p, pe_p0, eqB_e, eqB_n, List.getElem?_cons_zero, List.getElem?_cons_succ, Nat.zero_add, Bool.not_true, Bool.not_false, decide_true, decide_false, Int.reduceBEq, Int.reduceBNe, Int.reduceLT, Int.reduceLE, Int.reduceGT, Int.reduceGE, Int.reduceNeg, BEq.rfl, bne_self_eq_false, ge_iff_le, gt_iff_lt]
  | mk h1 h2 h3 h4 =>
    refine ⟨y, H', c_slices_Clone___byte_byte_ ?_, by simpa using a2, n3.trans a3, fun j hj => (a4 j hj).elim (fun q => by cases q) fun q => by omega⟩
    unfold s_slices_Clone___byte_byte_
    simp only [gA_es, IFT_t, nilS_f Tryz.underlying28, fl_nil, n1, a1, JN_0, JN_1, JN_2, JN_3, JN_4, JN_5, JN_6, JN_7, JN_8, JN_9, JN_10, JN_11, JN_12, JN_13, JN_14, JN_15, JN_16, JN_17, JN_18, JN_19, JN_20, JN_21, JN_22, JN_23, JN_24, B1_s, B2_s, BN_s, CD_t, CD_f, GO_tt, GO_ft, GO_tf, GO_ff, GO_ut, GO_uf, GD2_tt, GD2_ft, GD2_tf, GD2_ff, pk_t, pk_f, nilA_p, nilA_i, fa_p, fd_a, ex_t, iadd_i, isub_i, imul_i, ieq_i, ine_i, ilt_i, ile_i, igt_i, ige_i, seq_s, sne_s, slt_s, lens_s, lenx_0, lenx_s, not_b, bb_e, bb_n, cv_i, pe_00, pe_0p, pe_p0, eqB_e, eqB_n, List.getElem?_cons_zero, List.getElem?_cons_succ, Nat.zero_add, Bool.not_true, Bool.not_false, decide_true, decide_false, Int.reduceBEq, Int.reduceBNe, Int.reduceLT, Int.reduceLE, Int.reduceGT, Int.reduceGE, Int.reduceNeg, BEq.rfl, bne_self_eq_false, ge_iff_le, gt_iff_lt]
/-- rows of bytes, one behind the other in an object -/
structure Rows1 (H : Hp) (i : Nat) (cs : List AV) (ls : List (List Nat)) (el fl : Nat) : Prop where
  ob : Cs H i cs el fl
  len : cs.length = ls.length
  row : ∀ (j : Nat) (c : AV) (l : List Nat), cs[j]? = some c → ls[j]? = some l → Rw H 1 c (bs l)
theorem Rows1.out {H H' : Hp} {i : Nat} {cs : List AV} {ls : List (List Nat)} {el fl : Nat} (h : Rows1 H i cs ls el fl) (k : Out [] H H') : Rows1 H' i cs ls el fl :=
  ⟨h.ob.out k (fun q => by cases q), h.len, fun j c l h1 h2 => (h.row j c l h1 h2).out k fun j hj q => by cases q⟩
theorem Rows1.at {H : Hp} {i : Nat} {cs : List AV} {ls : List (List Nat)} {el fl : Nat} (h : Rows1 H i cs ls el fl) {j : Nat} {l : List Nat} {r : List (List Nat)} (hr : ls.drop j = l :: r) : j < ls.length ∧ ls.drop (j + 1) = r ∧
    ∃ c, ia 1 (.slice i 0 ls.length ls.length true 1) (.int .i64 (j : Nat)) = some (.ptr i j) ∧ ld (.ptr i j) H = some c ∧ Rw H 1 c (bs l) := by
  have hj : j < ls.length := by
    rcases Nat.lt_or_ge j ls.length with q | q
    · exact q
    · rw [List.drop_eq_nil_of_le q] at hr; cases hr
  have hl : ls[j]? = some l := by
    have := congrArg (fun z => z[0]?) hr
    simpa using this
  have hr' : ls.drop (j + 1) = r := by
    rw [← List.drop_drop, hr]; rfl
  have hjc : j < cs.length := by rw [h.len]; exact hj
  have hc : cs[j]? = some cs[j] := List.getElem?_eq_getElem hjc
  refine ⟨hj, hr', cs[j], ?_, h.ob.ld hc, h.row j _ l hc hl⟩
  have := ia_s (es := 1) (i := i) (off := 0) (cap := ls.length) (ex := true) (k := .i64) hj
  rw [Nat.zero_add, Nat.mul_one] at this
  exact this
theorem cat_loop {k : K.Fn 2} {H : Hp} {i : Nat} {cs : List AV} {ls : List (List Nat)} {el fl : Nat} (h : Rows1 H i cs ls el fl) (hn : ls.length ≤ 1000) : ∀ (r : List (List Nat)) (j a : Nat), ls.drop j = r → a + r.flatten.length ≤ 16777215 →
    l_slices_Concat___byte_byte_ JN GO cK k (.slice i 0 ls.length ls.length true 1) (.int .i64 (a : Nat)) (.slice i 0 ls.length ls.length true 1) (.int .i64 (ls.length : Nat)) (.int .i64 (j : Nat)) H = k (.slice i 0 ls.length ls.length true 1) (.int .i64 ((a + r.flatten.length : Nat) : Int)) H
  | [], j, a, hr, ha => by
    rw [ql_slices_Concat___byte_byte_]
    have : ls.length ≤ j := by simpa using hr
    have d : decide (((j : Nat) : Int) < ((ls.length : Nat) : Int)) = false := decide_eq_false (by omega)
    simp only [d, List.flatten_nil, List.length_nil, Nat.add_zero, JN_0, JN_1, JN_2, JN_3, JN_4, JN_5, JN_6, JN_7, JN_8, JN_9, JN_10, JN_11, JN_12, JN_13, JN_14, JN_15, JN_16, JN_17, JN_18, JN_19, JN_20, JN_21, JN_22, JN_23, JN_24, B1_s, B2_s, BN_s, CD_t, CD_f, GO_tt, GO_ft, GO_tf, GO_ff, GO_ut, GO_uf, GD2_tt, GD2_ft, GD2_tf, GD2_ff, pk_t, pk_f, nilA_p, nilA_i, fa_p, fd_a, ex_t, iadd_i, isub_i, imul_i, ieq_i, ine_i, ilt_i, ile_i, igt_i, ige_i, seq_s, sne_s, slt_s, lens_s, lenx_0, lenx_s, not_b, bb_e, bb_n, cv_i, pe_00, pe_0p, pe_p0, eqB_e, eqB_n, List.getElem?_cons_zero, List.getElem?_cons_succ, Nat.zero_add, Bool.not_true, Bool.not_false, decide_true, decide_false, Int.reduceBEq, Int.reduceBNe, Int.reduceLT, Int.reduceLE, Int.reduceGT, Int.reduceGE, Int.reduceNeg, BEq.rfl, bne_self_eq_false, ge_iff_le, gt_iff_lt]
  | l :: r, j, a, hr, ha => by
    obtain ⟨hj, hr', c, c1, c2, c3⟩ := h.at hr
    rw [List.flatten_cons, List.length_append] at ha
    have hl := c3.len1
    rw [bs_len] at hl
    have d : decide (((j : Nat) : Int) < ((ls.length : Nat) : Int)) = true := decide_eq_true (by omega)
    have a1 : iadd (.int .i64 (a : Nat)) (.int .i64 (l.length : Nat)) = some (.int .i64 ((a + l.length : Nat) : Int)) := add_n (by omega)
    have d1 : decide (((a + l.length : Nat) : Int) < 0) = false := decide_eq_false (by omega)
    have a2 : iadd (.int .i64 (j : Nat)) (.int .i64 1) = some (.int .i64 ((j + 1 : Nat) : Int)) := add_n (b := 1) (by omega)
    rw [iadd_i] at a1 a2
    have ih := cat_loop (k := k) h hn r (j + 1) (a + l.length) hr' (by omega)
    rw [ql_slices_Concat___byte_byte_]
    simp only [d, c1, c2, hl, a1, d1, a2, JN_0, JN_1, JN_2, JN_3, JN_4, JN_5, JN_6, JN_7, JN_8, JN_9, JN_10, JN_11, JN_12, JN_13, JN_14, JN_15, JN_16, JN_17, JN_18, JN_19, JN_20, JN_21, JN_22, JN_23, JN_24, B1_s, B2_s, BN_s, CD_t, CD_f, GO_tt, GO_ft, GO_tf, GO_ff, GO_ut, GO_uf, GD2_tt, GD2_ft, GD2_tf, GD2_ff, pk_t, pk_f, nilA_p, nilA_i, fa_p, fd_a, ex_t, iadd_i, isub_i, imul_i, ieq_i, ine_i, ilt_i, ile_i, igt_i, ige_i, seq_s, sne_s, slt_s, lens_s, lenx_0, lenx_s, not_b, bb_e, bb_n, cv_i, pe_00, pe_0p, pe_p0, eqB_e, eqB_n, List.getElem?_cons_zero, List.getElem?_cons_succ, Nat.zero_add, Bool.not_true, Bool.not_false, decide_true, decide_false, Int.reduceBEq, Int.reduceBNe, Int.reduceLT, Int.reduceLE, Int.reduceGT, Int.reduceGE, Int.reduceNeg, BEq.rfl, bne_self_eq_false, ge_iff_le, gt_iff_lt]
    rw [ih, List.flatten_cons, List.length_append, Nat.add_assoc]
theorem cat_loop1 {k : K.Fn 1} {H0 : Hp} {i : Nat} {cs : List AV} {ls : List (List Nat)} {el fl : Nat} (h : Rows1 H0 i cs ls el fl) (hn : ls.length ≤ 1000) : ∀ (r : List (List Nat)) (j : Nat) (s : AV) (l : List Nat) (H : Hp), ls.drop j = r → l.length + r.flatten.length ≤ 16777215 →
    Out [] H0 H → Ow H 5 1 s (bs l) → (∀ j ∈ rid s, H0.next ≤ j) →
    ∃ s' H', l_slices_Concat___byte_byte_1 JN GO cK k s (.slice i 0 ls.length ls.length true 1) (.int .i64 (ls.length : Nat)) (.int .i64 (j : Nat)) H = k s' H' ∧ Out [] H0 H' ∧ Ow H' 5 1 s' (bs (l ++ r.flatten)) ∧ (∀ j ∈ rid s', H0.next ≤ j)
  | [], j, s, l, H, hr, ha, ho, hs, hf => by
    refine ⟨s, H, ?_, ho, by simpa using hs, hf⟩
    rw [ql_slices_Concat___byte_byte_1]
    have : ls.length ≤ j := by simpa using hr
    have d : decide (((j : Nat) : Int) < ((ls.length : Nat) : Int)) = false := decide_eq_false (by omega)
    simp only [d, JN_0, JN_1, JN_2, JN_3, JN_4, JN_5, JN_6, JN_7, JN_8, JN_9, JN_10, JN_11, JN_12, JN_13, JN_14, JN_15, JN_16, JN_17, JN_18, JN_19, JN_20, JN_21, JN_22, JN_23, JN_24, B1_s, B2_s, BN_s, CD_t, CD_f, GO_tt, GO_ft, GO_tf, GO_ff, GO_ut, GO_uf, GD2_tt, GD2_ft, GD2_tf, GD2_ff, pk_t, pk_f, nilA_p, nilA_i, fa_p, fd_a, ex_t, iadd_i, isub_i, imul_i, ieq_i, ine_i, ilt_i, ile_i, igt_i, ige_i, seq_s, sne_s, slt_s, lens_s, lenx_0, lenx_s, not_b, bb_e, bb_n, cv_i, pe_00, pe_0p, pe_p0, eqB_e, eqB_n, List.getElem?_cons_zero, List.getElem?_cons_succ, Nat.zero_add, Bool.not_true, Bool.not_false, decide_true, decide_false, Int.reduceBEq, Int.reduceBNe, Int.reduceLT, Int.reduceLE, Int.reduceGT, Int.reduceGE, Int.reduceNeg, BEq.rfl, bne_self_eq_false, ge_iff_le, gt_iff_lt]
  | x :: r, j, s, l, H, hr, ha, ho, hs, hf => by
    obtain ⟨hj, hr', c, c1, c2, c3⟩ := (h.out ho).at hr
    rw [List.flatten_cons, List.length_append] at ha
    have d : decide (((j : Nat) : Int) < ((ls.length : Nat) : Int)) = true := decide_eq_true (by omega)
    have a2 : iadd (.int .i64 (j : Nat)) (.int .i64 1) = some (.int .i64 ((j + 1 : Nat) : Int)) := add_n (b := 1) (by omega)
    rw [iadd_i] at a2
    obtain ⟨s', H', b1, b2, b3, b4⟩ := append_ok (z := [.int .u8 0]) hs c3 (bs_one _) (by omega) (by rw [bs_len, bs_len]; omega)
    rw [← bs_app] at b2
    have ho' : Out [] H0 H' := ho.then b3 fun j hj => .inr (hf j hj)
    have hf' : ∀ j ∈ rid s', H0.next ≤ j := fun j hj => (b4 j hj).elim (hf j) fun q => Nat.le_trans ho.1 q
    obtain ⟨s2, H2, e1, e2, e3, e4⟩ := cat_loop1 (k := k) h hn r (j + 1) s' (l ++ x) H' hr' (by rw [List.length_append]; omega) ho' b2 hf'
    refine ⟨s2, H2, ?_, e2, ?_, e4⟩
    · rw [ql_slices_Concat___byte_byte_1]
      simp only [d, c1, c2, b1, a2, JN_0, JN_1, JN_2, JN_3, JN_4, JN_5, JN_6, JN_7, JN_8, JN_9, JN_10, JN_11, JN_12, JN_13, JN_14, JN_15, JN_16, JN_17, JN_18, JN_19, JN_20, JN_21, JN_22, JN_23, JN_24, B1_s, B2_s, BN_s, CD_t, CD_f, GO_tt, GO_ft, GO_tf, GO_ff, GO_ut, GO_uf, GD2_tt, GD2_ft, GD2_tf, GD2_ff, pk_t, pk_f, nilA_p, nilA_i, fa_p, fd_a, ex_t, iadd_i, isub_i, imul_i, ieq_i, ine_i, ilt_i, ile_i, igt_i, ige_i, seq_s, sne_s, slt_s, lens_s, lenx_0, lenx_s, not_b, bb_e, bb_n, cv_i, pe_00, pe_0p, pe_p0, eqB_e, eqB_n, List.getElem?_cons_zero, List.getElem?_cons_succ, Nat.zero_add, Bool.not_true, Bool.not_false, decide_true, decide_false, Int.reduceBEq, Int.reduceBNe, Int.reduceLT, Int.reduceLE, Int.reduceGT, Int.reduceGE, Int.reduceNeg, BEq.rfl, bne_self_eq_false, ge_iff_le, gt_iff_lt]
      exact e1
    · rw [List.flatten_cons, ← List.append_assoc]; exact e3
theorem concat_c {H : Hp} {i : Nat} {cs : List AV} {ls : List (List Nat)} {el fl : Nat} (h : Rows1 H i cs ls el fl) (hn : ls.length ≤ 1000) (hl : ls.flatten.length ≤ 16777215) :
    ∃ y H', cK (.func (.func 42) [] []) [.slice i 0 ls.length ls.length true 1] H = some (y, H') ∧ Out [] H H' ∧ Ow H' 5 1 y (bs ls.flatten) ∧ (∀ j ∈ rid y, H.next ≤ j) := by
  obtain ⟨g, H1, g1, g2, g3, g4⟩ := grow_c (H := H) ls.flatten.length hl
  have lp := fun (k : K.Fn 2) => cat_loop (k := k) h hn ls 0 0 rfl (by omega)
  obtain ⟨y, H', e1, e2, e3, e4⟩ := cat_loop1 (k := fun x h => some (x, h)) h hn ls 0 g [] H1 rfl (by simpa using hl) g3 g2 g4
  rw [show (((0 : Nat) : Int)) = 0 from rfl] at lp e1
  simp only [Nat.zero_add] at lp
  refine ⟨y, H', c_slices_Concat___byte_byte_ ?_, e2, by simpa using e3, e4⟩
  unfold s_slices_Concat___byte_byte_
  simp only [lp, g1, JN_0, JN_1, JN_2, JN_3, JN_4, JN_5, JN_6, JN_7, JN_8, JN_9, JN_10, JN_11, JN_12, JN_13, JN_14, JN_15, JN_16, JN_17, JN_18, JN_19, JN_20, JN_21, JN_22, JN_23, JN_24, B1_s, B2_s, BN_s, CD_t, CD_f, GO_tt, GO_ft, GO_tf, GO_ff, GO_ut, GO_uf, GD2_tt, GD2_ft, GD2_tf, GD2_ff, pk_t, pk_f, nilA_p, nilA_i, fa_p, fd_a, ex_t, iadd_i, isub_i, imul_i, ieq_i, ine_i, ilt_i, ile_i, igt_i, ige_i, seq_s, sne_s, slt_s, lens_s, lenx_0, lenx_s, not_b, bb_e, bb_n, cv_i, pe_00, pe_0p, pe_p0, eqB_e, eqB_n, List.getElem?_cons_zero, List.getElem?_cons_succ, Nat.zero_add, Bool.not_true, Bool.not_false, decide_true, decide_false, Int.reduceBEq, Int.reduceBNe, Int.reduceLT, Int.reduceLE, Int.reduceGT, Int.reduceGE, Int.reduceNeg, BEq.rfl, bne_self_eq_false, ge_iff_le, gt_iff_lt]
  exact e1
theorem same_i (k : IntKind) (a : Int) : same (.int k a) (.int k a) = true := by cases k <;> simp [same, sameS]
theorem same_rw {H : Hp} {es : Nat} {x : AV} {l : List AV} (h : Rw H es x l) : same x x = true := by
  cases h <;> simp [same, sameS]
theorem cells_rw {H : Hp} {es : Nat} {x : AV} {l : List AV} (h : Rw H es x l) : cellsV x = some [x] := by
  cases h <;> rfl
theorem cells_rec {H : Hp} {es : Nat} {x : AV} {l : List AV} (h : Rw H es x l) (a : Int) : cellsV (.agg [.int .u64 a, x]) = some [.int .u64 a, x] := by
  cases h <;> rfl
/-- the twelve bytes ahead; the whole frame -/
def hd12 (at' : Nat) (b : List Nat) : List Nat := le 4 b.length ++ le 8 at'
def fr (at' : Nat) (b : List Nat) : List Nat := hd12 at' b ++ le 4 (onS 1 (hd12 at' b ++ b)) ++ b
theorem hd12_len (a : Nat) (b : List Nat) : (hd12 a b).length = 12 := by simp [hd12, le_len]
theorem fr_len (a : Nat) (b : List Nat) : (fr a b).length = 16 + b.length := by simp [fr, hd12_len, le_len]; omega
theorem hd12_byte (a : Nat) (b : List Nat) : ∀ x ∈ hd12 a b, x < 256 := fun x hx => (List.mem_append.1 hx).elim (le_byte _ _ x) (le_byte _ _ x)
theorem put_c {H : Hp} {x y : AV} {l b : List Nat} {at' : Nat} (hx : Rw H 1 x (bs l)) (hy : Rw H 1 y (bs b)) (ha : at' < 18446744073709551616) (hb : ∀ v ∈ b, v < 256) (hn : b.length ≤ 1024) (hl : l.length ≤ 1000000) :
    ∃ z H', cK (.func (.func 26) [] []) [x, .agg [.int .u64 at', y]] H = some (.tuple [z, .int .i64 0], H') ∧ Out [] H H' ∧ Ow H' 5 1 z (bs (l ++ fr at' b)) ∧ (∀ j ∈ rid z, H.next ≤ j) := by
  have hcv := cells_rec hy (at' : Int)
  obtain ⟨H1, b1, b2, b3, b4⟩ := bx_ok H 37 _ _ hcv (by simp)
  have hyl := hy.len1
  rw [bs_len] at hyl
  have d1 : decide (1024 < ((b.length : Nat) : Int)) = false := decide_eq_false (by omega)
  have w1 : IntKind.wrap .u64 ((b.length : Nat) : Int) = b.length := wrap_u rfl (by show b.length < 18446744073709551616; omega)
  have l1 : ld (.ptr H.next 1) H1 = some y := b2.ld rfl
  obtain ⟨s1, H2, n1, n2, n3, n4⟩ := number_c (v := b.length) (n := 4) (by omega) (by decide) (Ow.nil (H := H1) (el := 5) (es := 1)) (by simp) (l := [])
  rw [List.nil_append] at n2
  have f1 : ∀ j ∈ rid s1, H1.next ≤ j := fun j hj => (n4 j hj).elim (fun q => by cases q) id
  have o2 : Out [] H1 H2 := n3
  have r2 := b2.out o2 (fun q => by cases q)
  obtain ⟨s2, H3, m1, m2, m3, m4⟩ := number_c (v := at') (n := 8) ha (by decide) n2 (by rw [le_len]; decide)
  have o3 : Out [] H1 H3 := o2.then m3 fun j hj => .inr (f1 j hj)
  have f2 : ∀ j ∈ rid s2, H1.next ≤ j := fun j hj => (m4 j hj).elim (f1 j) fun q => Nat.le_trans o2.1 q
  have r3 := b2.out o3 (fun q => by cases q)
  have l2 : ld (.ptr H.next 0) H2 = some (.int .u64 (at' : Int)) := r2.ld rfl
  have l2' : ld (.ptr H.next 0) H1 = some (.int .u64 (at' : Int)) := b2.ld rfl
  have l3 : ld (.ptr H.next 1) H3 = some y := r3.ld rfl
  have oH3 : Out [] H H3 := b3.trans o3
  have hy3 := hy.out oH3 fun j _ q => by cases q
  have e1 := of_c (l := hd12 at' b) m2.rw (hd12_byte _ _) (by rw [hd12_len]; decide)
  have g1 := onS_lt (s := 1) (by decide) (hd12 at' b)
  have e2 := on_c hy3 hb (by omega) g1.1 g1.2
  rw [onS_app (by decide)] at e2
  have g2 := onS_lt (s := 1) (by decide) (hd12 at' b ++ b)
  have w2 : IntKind.wrap .u64 ((onS 1 (hd12 at' b ++ b) : Nat) : Int) = ((onS 1 (hd12 at' b ++ b) : Nat) : Int) := wrap_u rfl (Nat.lt_trans g2.1 (by decide))
  obtain ⟨s3, H4, p1, p2, p3, p4⟩ := number_c (v := onS 1 (hd12 at' b ++ b)) (n := 4) (Nat.lt_trans g2.1 (by decide)) (by decide) m2 (by
    have := hd12_len at' b
    unfold hd12 at this
    rw [this]; decide)
  have o4 : Out [] H1 H4 := o3.then p3 fun j hj => .inr (f2 j hj)
  have r4 := b2.out o4 (fun q => by cases q)
  have l4 : ld (.ptr H.next 1) H4 = some y := r4.ld rfl
  have oH4 : Out [] H H4 := b3.trans o4
  have hx4 := hx.out oH4 fun j _ q => by cases q
  have hy4 := hy.out oH4 fun j _ q => by cases q
  have fl3 : fl [.slice0, .slice0, .slice0] [(0, 1, x), (1, 1, s3), (2, 1, y)] = some [x, s3, y] := by
    have c1 := cells_rw hx
    have c2 := cells_rw p2.rw
    have c3 := cells_rw hy
    simp [fl, c1, c2, c3]
  obtain ⟨H5, q1, q2, q3, q4⟩ := newCells_ok H4 [x, s3, y] 28 0 (by simp)
  have no : ∀ (v : AV) (j : Nat), j ∈ rid v → j ∉ ([] : List Nat) := fun v j _ q => by cases q
  have hrow : Rows1 H5 H4.next [x, s3, y] [l, hd12 at' b ++ le 4 (onS 1 (hd12 at' b ++ b)), b] 28 0 := by
    refine ⟨q2, rfl, fun j c m h1 h2 => ?_⟩
    match j, h1, h2 with
    | 0, h1, h2 => cases h1; cases h2; exact hx4.out q3 (no _)
    | 1, h1, h2 => cases h1; cases h2; exact p2.rw.out q3 (no _)
    | 2, h1, h2 => cases h1; cases h2; exact hy4.out q3 (no _)
  obtain ⟨z, H6, z1, z2, z3, z4⟩ := concat_c hrow (by simp) (by simp [hd12_len, le_len]; omega)
  have l6 : ld (.ptr H.next 1) H3 = some y := l3
  refine ⟨z, H6, c_frame_Put ?_, (oH4.trans q3).trans z2, ?_, fun j hj => Nat.le_trans (oH4.trans q3).1 (z4 j hj)⟩
  · unfold s_frame_Put
    rw [show (([l, hd12 at' b ++ le 4 (onS 1 (hd12 at' b ++ b)), b] : List (List Nat)).length) = 3 from rfl] at z1
    have n1' := n1
    have m1' := m1
    have p1' := p1
    rw [show (((4 : Nat) : Int)) = 4 from rfl] at n1' p1'
    rw [show (((8 : Nat) : Int)) = 8 from rfl] at m1'
    simp only [b1, l1, hyl, d1, w1, n1', l2, l2', m1', SM_t (same_i .u64 (at' : Int)), e1, l3, e2, SM_t (same_rw hy), w2, p1', l4, fl3, q1, z1, JN_0, JN_1, JN_2, JN_3, JN_4, JN_5, JN_6, JN_7, JN_8, JN_9, JN_10, JN_11, JN_12, JN_13, JN_14, JN_15, JN_16, JN_17, JN_18, JN_19, JN_20, JN_21, JN_22, JN_23, JN_24, B1_s, B2_s, BN_s, CD_t, CD_f, GO_tt, GO_ft, GO_tf, GO_ff, GO_ut, GO_uf, GD2_tt, GD2_ft, GD2_tf, GD2_ff, pk_t, pk_f, nilA_p, nilA_i, fa_p, fd_a, ex_t, iadd_i, isub_i, imul_i, ieq_i, ine_i, ilt_i, ile_i, igt_i, ige_i, seq_s, sne_s, slt_s, lens_s, lenx_0, lenx_s, not_b, bb_e, bb_n, cv_i, pe_00, pe_0p, pe_p0, eqB_e, eqB_n, List.getElem?_cons_zero, List.getElem?_cons_succ, Nat.zero_add, Bool.not_true, Bool.not_false, decide_true, decide_false, Int.reduceBEq, Int.reduceBNe, Int.reduceLT, Int.reduceLE, Int.reduceGT, Int.reduceGE, Int.reduceNeg, BEq.rfl, bne_self_eq_false, ge_iff_le, gt_iff_lt]
  · have : fr at' b = (hd12 at' b ++ le 4 (onS 1 (hd12 at' b ++ b))) ++ b := rfl
    rw [this]
    simpa using z3
theorem st_all {H : Hp} {i n : Nat} {l cs : List AV} {el fl : Nat} {v : AV} (h : Cs H i l el fl) (hf : fl ≤ 1) (hv : cellsV v = some cs) (hl : cs.length = n) (hn : l.length = n) (ho : ∀ v ∈ cs, oneC v = true) :
    ∃ H', st n (.ptr i 0) v H = some H' ∧ Cs H' i cs el fl ∧ Out [i] H H' ∧ H'.next = H.next := by
  obtain ⟨hi, c, hc, hg⟩ := h
  obtain ⟨H', c', q1, q2, q3, q4, q5⟩ := setCells_get cs H i 0 c 0 l.length el fl hc hf (Nat.le_refl _) (by omega) (fun k hk => by
    have hk' : k < l.length := by omega
    rw [Nat.zero_add, hg k l[k] (List.getElem?_eq_getElem hk')]; rfl) ho
  refine ⟨H', ?_, ⟨by omega, c', ?_, fun k w hk => ?_⟩, ⟨by omega, fun j hj hn => q4 j (by simpa using hn)⟩, q2⟩
  · unfold st
    simp only [hv]
    rw [show Nat.beq n cs.length = true by rw [hl]; exact Nat.beq_refl n]
    exact q1
  · rw [q3, hl, hn]
  · rw [q5 k, if_pos ⟨Nat.zero_le _, by have := (List.getElem?_eq_some_iff.1 hk).1; omega⟩, Nat.sub_zero]
    exact hk
/-- what Get tells of bytes: the error, the length, the stamp, the payload -/
def gN (l : List Nat) : Nat := ud (l.take 4)
def gB (l : List Nat) : List Nat := (l.drop 16).take (gN l)
def gA (l : List Nat) : Nat := ud ((l.drop 4).take 8)
def gE (l : List Nat) : Nat :=
  if l.length < 4 then 3 else if 1024 < gN l then 14 else if l.length < 16 + gN l then 3 else
  if onS 1 (l.take 12 ++ gB l) ≠ ud ((l.drop 12).take 4) then 2 else 0
theorem one_rw {H : Hp} {es : Nat} {x : AV} {l : List AV} (h : Rw H es x l) : oneC x = true := by
  cases h <;> rfl
/-- records' cells -/
def rcs : List (Nat × List Nat) → List AV → List AV
  | r :: rs, y :: ys => .int .u64 (r.1 : Nat) :: y :: rcs rs ys
  | _, _ => []
theorem rcs_app : ∀ (a : List (Nat × List Nat)) (x : List AV) (r : Nat × List Nat) (y : AV), x.length = a.length → rcs (a ++ [r]) (x ++ [y]) = rcs a x ++ [.int .u64 (r.1 : Nat), y]
  | [], [], r, y, h => rfl
  | q :: a, z :: x, r, y, h => by
    have := rcs_app a x r y (by simpa using h)
    show _ :: _ :: rcs (a ++ [r]) (x ++ [y]) = _
    rw [this]; rfl
theorem rcs_len : ∀ (a : List (Nat × List Nat)) (x : List AV), x.length = a.length → (rcs a x).length = a.length * 2
  | [], [], h => rfl
  | q :: a, z :: x, h => by
    have := rcs_len a x (by simpa using h)
    simp only [rcs, List.length_cons, this]; omega
/-- a slice of records -/
structure Rs (H : Hp) (x : AV) (rs : List (Nat × List Nat)) (ys : List AV) : Prop where
  own : Ow H 37 2 x (rcs rs ys)
  len : ys.length = rs.length
  row : ∀ (j : Nat) (y : AV) (r : Nat × List Nat), ys[j]? = some y → rs[j]? = some r → Rw H 1 y (bs r.2)
  sep : ∀ y ∈ ys, ∀ i ∈ rid y, i ∉ rid x
theorem Rs.out {H H' : Hp} {x : AV} {rs : List (Nat × List Nat)} {ys : List AV} (h : Rs H x rs ys) (k : Out [] H H') : Rs H' x rs ys :=
  ⟨h.own.out k (fun j _ q => by cases q), h.len, fun j y r h1 h2 => (h.row j y r h1 h2).out k (fun j _ q => by cases q), h.sep⟩
/-- does the next record go on? -/
def on (l : List Nat) (first ep : Int) : Bool := decide (gE l = 0) && decide (((gA l % 17592186044416 : Nat) : Int) = first) && decide (ep ≤ ((gA l / 17592186044416 : Nat) : Int))
theorem hd_drop {α : Type} {l r : List α} {v : α} {i : Nat} (h : l.drop i = v :: r) : i < l.length ∧ l[i]? = some v ∧ l.drop (i + 1) = r := by
  have hi : i < l.length := by
    rcases Nat.lt_or_ge i l.length with q | q
    · exact q
    · rw [List.drop_eq_nil_of_le q] at h; cases h
  refine ⟨hi, ?_, ?_⟩
  · have := congrArg (fun z => z[0]?) h
    simpa using this
  · rw [← List.drop_drop, h]; rfl
theorem fl_rec {H : Hp} {es : Nat} {y : AV} {l : List AV} (h : Rw H es y l) (a : Int) : fl [.int .u64 0, .slice0] [(0, 1, .int .u64 a), (1, 1, y)] = some [.int .u64 a, y] := by
  have c1 : cellsV (.int .u64 a) = some [.int .u64 a] := rfl
  have c2 := cells_rw h
  simp [fl, c1, c2]
theorem iaN {H : Hp} {es : Nat} {x : AV} {l : List AV} (h : Rw H es x l) (hes : 0 < es) {j : Nat} (hj : j * es < l.length) (k : IntKind) :
    ∃ i o, ia es x (.int k j) = some (.ptr i o) ∧ ∀ r v, l[j * es + r]? = some v → ld (.ptr i (o + r)) H = some v := by
  cases h with
  | nil => simp at hj
  | emp => simp at hj
  | mk hr hn hc he =>
    refine ⟨_, _, ia_s (Nat.lt_of_mul_lt_mul_right (a := es) (by omega)), fun r v hv => ?_⟩
    rw [Nat.add_assoc]
    exact hr.ld hv
theorem rcs_get : ∀ (rs : List (Nat × List Nat)) (ys : List AV) (j : Nat) (r : Nat × List Nat) (y : AV), rs[j]? = some r → ys[j]? = some y → (rcs rs ys)[j * 2 + 0]? = some (.int .u64 (r.1 : Nat)) ∧ (rcs rs ys)[j * 2 + 1]? = some y
  | _ :: _, _ :: _, 0, r, y, h, k => by cases h; cases k; exact ⟨rfl, rfl⟩
  | _ :: rs, _ :: ys, j + 1, r, y, h, k => by
    have := rcs_get rs ys j r y h k
    rw [show (j + 1) * 2 + 0 = j * 2 + 0 + 1 + 1 by omega, show (j + 1) * 2 + 1 = j * 2 + 1 + 1 + 1 by omega]
    exact this
theorem Rs.lenc {H : Hp} {x : AV} {rs : List (Nat × List Nat)} {ys : List AV} (h : Rs H x rs ys) : lenx x = some (.int .i64 rs.length) := by
  obtain ⟨n, h1, h2⟩ := h.own.rw.len
  rw [rcs_len _ _ h.len] at h2
  rw [h1]
  have : n = rs.length := by omega
  rw [this]
theorem Rs.at {H : Hp} {x : AV} {rs : List (Nat × List Nat)} {ys : List AV} (h : Rs H x rs ys) {j : Nat} {r : Nat × List Nat} (hj : rs[j]? = some r) (k : IntKind) :
    ∃ i o y, ia 2 x (.int k j) = some (.ptr i o) ∧ ld (.ptr i (o + 0)) H = some (.int .u64 (r.1 : Nat)) ∧ ld (.ptr i (o + 1)) H = some y ∧ Rw H 1 y (bs r.2) := by
  have hlt := (List.getElem?_eq_some_iff.1 hj).1
  obtain ⟨y0, hy⟩ : ∃ y0, ys[j]? = some y0 := ⟨_, List.getElem?_eq_getElem (by rw [h.len]; exact hlt)⟩
  obtain ⟨g0, g1⟩ := rcs_get rs ys j r _ hj hy
  obtain ⟨i, o, a1, a2⟩ := iaN h.own.rw (by decide) (j := j) (by rw [rcs_len _ _ h.len]; omega) k
  exact ⟨i, o, y0, a1, a2 0 _ g0, a2 1 _ g1, h.row j _ r hy hj⟩
/-- a list of what is there, place by place -/
theorem pick_list {α : Type} (Q : Nat → α → Prop) : ∀ n, (∀ j, j < n → ∃ a, Q j a) → ∃ l : List α, l.length = n ∧ ∀ j a, l[j]? = some a → Q j a
  | 0, _ => ⟨[], rfl, fun j a h => by simp at h⟩
  | n + 1, h => by
    obtain ⟨l, hl, hq⟩ := pick_list Q n fun j hj => h j (by omega)
    obtain ⟨a, ha⟩ := h n (by omega)
    refine ⟨l ++ [a], by simp [hl], fun j b hb => ?_⟩
    by_cases hj : j < l.length
    · rw [List.getElem?_append_left hj] at hb
      exact hq j b hb
    · rw [List.getElem?_append_right (by omega)] at hb
      have hlt := (List.getElem?_eq_some_iff.1 hb).1
      rw [List.length_singleton] at hlt
      have e : j = n := by omega
      subst e
      rw [hl, Nat.sub_self] at hb
      cases hb
      exact ha
theorem is_b {H : Hp} {l : List AV} {d : D} (h : Is H (.slice 1 (.int .u8)) l d) : ∃ x b, [x] = l ∧ Rw H 1 x (bs b) ∧ ∀ c ∈ b, c < 256 := by
  cases h with
  | slice hr hl hd =>
    obtain ⟨b, h1, h2⟩ := is_bytes (.slice hr hl hd)
    exact ⟨_, b, rfl, h1, h2⟩
/-- a row of marks -/
def Mk (H : Hp) (x : AV) (ms : List (Int × Int × List Nat)) : Prop := ∃ cs, Rw H 3 x cs ∧ cs.length = ms.length * 3 ∧ ∀ j m, ms[j]? = some m → cs[j * 3 + 0]? = some (.int .i64 m.1) ∧ cs[j * 3 + 1]? = some (.int .i64 m.2.1) ∧ ∃ y, cs[j * 3 + 2]? = some y ∧ Rw H 1 y (bs m.2.2)
theorem Mk.out {H H' : Hp} {x : AV} {ms : List (Int × Int × List Nat)} (h : Mk H x ms) (k : Out [] H H') : Mk H' x ms := by
  obtain ⟨cs, h1, h2, h3⟩ := h
  refine ⟨cs, h1.out k (fun j _ q => by cases q), h2, fun j m hm => ?_⟩
  obtain ⟨a, b, y, c, d⟩ := h3 j m hm
  exact ⟨a, b, y, c, d.out k fun j _ q => by cases q⟩
theorem Mk.lenc {H : Hp} {x : AV} {ms : List (Int × Int × List Nat)} (h : Mk H x ms) : lenx x = some (.int .i64 ms.length) := by
  obtain ⟨cs, h1, h2, h3⟩ := h
  obtain ⟨n, a, b⟩ := h1.len
  have : n = ms.length := by omega
  rw [a, this]
theorem Mk.at {H : Hp} {x : AV} {ms : List (Int × Int × List Nat)} (h : Mk H x ms) {j : Nat} {m : Int × Int × List Nat} (hj : ms[j]? = some m) (k : IntKind) :
    ∃ i o y, ia 3 x (.int k j) = some (.ptr i o) ∧ ld (.ptr i (o + 0)) H = some (.int .i64 m.1) ∧ ld (.ptr i (o + 1)) H = some (.int .i64 m.2.1) ∧ ld (.ptr i (o + 2)) H = some y ∧ Rw H 1 y (bs m.2.2) := by
  obtain ⟨cs, h1, h2, h3⟩ := h
  obtain ⟨a, b, y, c, d⟩ := h3 j m hj
  have hlt := (List.getElem?_eq_some_iff.1 hj).1
  obtain ⟨i, o, a1, a2⟩ := iaN h1 (by decide) (j := j) (by omega) k
  exact ⟨i, o, y, a1, a2 0 _ a, a2 1 _ b, a2 2 _ c, d⟩
end Go.Proofs.YtbdlbhlhnpblpaaGreatDoor.SgK
namespace Go.Proofs.YtbdlbhlhnpblpaaGreatDoor.SgN
open Go Am Am.K WlEnv Sg SegPrim
set_option linter.unusedVariables false
set_option linter.unusedSimpArgs false
theorem vsA {H : Am.Hp} (hT : hasT H begin0) : VsA H := by
  obtain ⟨el, h⟩ := hT
  have h1 := h 7 (tab64.map (AV.int .u8)) (by simp [begin0])
  have h2 := h 1 [.iface 215 (.ptr 10 0)] (by simp [begin0])
  have h3 := h 2 [.iface 215 (.ptr 9 0)] (by simp [begin0])
  refine ⟨?_, ⟨215, .ptr 10 0, ?_⟩, ⟨215, .ptr 9 0, ?_⟩⟩
  · unfold cellAt; rw [h1]; kernel_rfl
  · unfold cellAt; rw [h2]; kernel_rfl
  · unfold cellAt; rw [h3]; kernel_rfl
theorem name_c (an : Nat → An) {H : Am.Hp} (hV : VsA H) (a : Int) : CK Tryz.prog (regK Tryz.prog) ext prim an (.func (.func 46) [] []) [.int .i64 a] H = some (.tuple [.str (nms a), .bool (inN a)], H) := by
  refine ck_prim (p := nameP) (by kernel_rfl) ?_
  unfold nameP
  simp only [if_pos hV]
theorem parse_c (an : Nat → An) {H : Am.Hp} (hV : VsA H) (s : List Nat) (hs : s.length ≤ 281474976710656) : CK Tryz.prog (regK Tryz.prog) ext prim an (.func (.func 53) [] []) [.str s] H = some (.tuple [.int .i64 (sps s).1, .bool (sps s).2], H) := by
  refine ck_prim (p := parseP) (by kernel_rfl) ?_
  unfold parseP
  simp only [if_pos (show VsA H ∧ s.length ≤ 281474976710656 from ⟨hV, hs⟩)]
theorem inN_t {a : Int} (h : 0 ≤ a) (k : a ≤ 17592186044415) : inN a = true := by unfold inN; simp; omega
theorem nms_t {a : Int} (h : inN a = true) : nms a = (nm a.toNat).map (·.toNat) := by unfold nms; rw [h]; rfl
theorem nms_len {a : Int} (h : inN a = true) : (nms a).length = 14 := by rw [nms_t h]; simp [nm, pad_length]
end Go.Proofs.YtbdlbhlhnpblpaaGreatDoor.SgN
namespace Go.Proofs.YtbdlbhlhnpblpaaGreatDoor.SgK
open Go Am Am.K WlEnv WlK Sg SegPrim SgN SegSort
set_option linter.unusedVariables false
set_option linter.unusedSimpArgs false
theorem nums_len (l : List Int) : (nums l).length = l.length := by simp [nums]
theorem nums_one (l : List Int) : ∀ v ∈ nums l, oneC v = true := by
  intro v hv
  obtain ⟨b, _, rfl⟩ := List.mem_map.1 hv
  rfl
theorem nums_app (a b : List Int) : nums (a ++ b) = nums a ++ nums b := by simp [nums]
theorem nums_get {l : List Int} {j : Nat} {z : Int} (h : l[j]? = some z) : (nums l)[j]? = some (.int .i64 z) := by simp [nums, h]
theorem sort_c {H : Hp} {x : AV} {zs : List Int} (hx : Ow H 2 1 x (nums zs)) (hl : zs.length ≤ 16777216) :
    ∃ H', cK (.func (.func 54) [] []) [x] H = some (.tuple [], H') ∧ Ow H' 2 1 x (nums (sortZ zs)) ∧ Out (rid x) H H' := by
  generalize hz : nums zs = l at hx
  cases hx with
  | nil =>
    have : zs = [] := by simpa [nums] using hz
    subst this
    refine ⟨H, ck_prim (p := sortP) (by kernel_rfl) ?_, ?_, Out.refl _ _⟩
    · rfl
    · simp [sortZ, nums]; exact .nil
  | @emp i off =>
    have : zs = [] := by simpa [nums] using hz
    subst this
    refine ⟨H, ck_prim (p := sortP) (by kernel_rfl) ?_, ?_, Out.refl _ _⟩
    · unfold sortP
      simp only [if_true]
    · simp [sortZ, nums]; exact .emp
  | @mk i off n cap ex _ c lo hi fl hi' hg hf hlo hhi hcap hn hc hs h1 he =>
    subst hz
    rw [nums_len, Nat.mul_one] at hn
    by_cases h0 : n = 0
    · subst h0
      have : zs = [] := List.length_eq_zero_iff.1 hn
      subst this
      refine ⟨H, ck_prim (p := sortP) (by kernel_rfl) ?_, ?_, Out.refl _ _⟩
      · unfold sortP
        simp only [if_true]
      · exact .mk hi' hg hf hlo hhi hcap (by simp [sortZ, nums]) (by simp [sortZ, nums]) hs (by simp [sortZ, nums]) he
    · have hsl := sortZ_len zs
      have hro : Ro H i off (nums zs) := ⟨hi', c, lo, hi, 2, fl, hg, hlo, by rw [nums_len]; omega, hc⟩
      have hcells := hro.cellsAt
      rw [nums_len, hn] at hcells
      have hbind : (Am.cellsAt H i off n).bind zsOf = some zs := by rw [hcells]; exact zsOf_nums zs
      have hrun : sortP [.slice i off n cap ex 1] H = some (.tuple [], { H with h := H.h.upd i (.cells (c.puts off (nums (sortZ zs))) lo hi 2 fl) }) := by
        unfold sortP
        simp only
        rw [if_neg h0, if_pos ⟨trivial, by omega⟩, hg, Option.bind_some]
        unfold sort2
        simp only
        rw [if_pos ⟨hlo, by omega, hf⟩, hbind]
        rfl
      have hget : ∀ j, (H.h.upd i (AO.cells (c.puts off (nums (sortZ zs))) lo hi 2 fl)).get j = if j = i then some (AO.cells (c.puts off (nums (sortZ zs))) lo hi 2 fl) else H.h.get j := fun j => Tr.get_upd _ _ _ _ (by rw [hg]; rfl)
      refine ⟨_, ck_prim (p := sortP) (by kernel_rfl) hrun, ?_, ⟨Nat.le_refl _, fun j hj hn' => ?_⟩⟩
      · refine .mk (c := c.puts off (nums (sortZ zs))) hi' ?_ hf hlo hhi hcap (by rw [nums_len]; omega) (fun k v hk => ?_) (fun k hk => ?_) (nums_one _) he
        · show (H.h.upd i _).get i = _
          rw [hget, if_pos rfl]
        · have hk' := (List.getElem?_eq_some_iff.1 hk).1
          rw [Tr.get_putsA, if_pos ⟨by omega, by omega⟩, Nat.add_sub_cancel_left]
          exact hk
        · rw [Tr.get_putsA]
          split
          · rename_i hin
            rw [List.getElem?_eq_getElem (by omega)]
            rfl
          · exact hs k hk
      · show (H.h.upd i _).get j = _
        rw [hget, if_neg (fun q => hn' (by subst q; rw [rid_s he]; exact .head _))]
/-- one cell of a row of our own is written -/
theorem ow_set {H : Hp} {el : Nat} {x : AV} {l : List AV} (h : Ow H el 1 x l) {j : Nat} (hj : j < l.length) {v : AV} (hv : oneC v = true) (hc : cellsV v = some [v]) :
    ∃ q H', (∀ k, ia 1 x (.int k j) = some q) ∧ st 1 q v H = some H' ∧ Ow H' el 1 x (l.set j v) ∧ Out (rid x) H H' ∧ H'.next = H.next := by
  cases h with
  | nil => simp at hj
  | emp => simp at hj
  | @mk i off n cap ex _ c lo hi fl hi' hg hf hlo hhi hcap hn hcc hs h1 he =>
    obtain ⟨H', c', q1, q2, q3, q4, q5⟩ := setCells_get [v] H i (off + j * 1) c lo hi el fl hg hf (by omega) (by simp only [List.length_cons, List.length_nil]; omega) (fun k hk => by
      simp only [List.length_cons, List.length_nil] at hk
      have := hs j (by omega)
      rw [show off + j * 1 + k = off + j by omega]
      exact this) (fun u hu => by rw [List.mem_singleton] at hu; subst hu; exact hv)
    simp only [List.length_cons, List.length_nil] at q5
    refine ⟨.ptr i (off + j * 1), H', fun k => ia_s (by omega), ?_, ?_, ⟨by omega, fun k hk hn' => q4 k fun e => hn' (by subst e; rw [rid_s he]; exact .head _)⟩, q2⟩
    · unfold st
      simp only [hc]
      exact q1
    · refine .mk (by omega) q3 hf hlo hhi hcap (by rw [List.length_set]; exact hn) (fun k w hk => ?_) (fun k hk => ?_) (fun w hw => ?_) he
      · rw [q5]
        rw [List.getElem?_set] at hk
        split at hk
        · rename_i e
          subst e
          rw [if_pos ⟨by omega, by omega⟩, show off + j - (off + j * 1) = 0 by omega]
          exact hk
        · rw [if_neg (by omega)]
          exact hcc k w hk
      · rw [q5]
        split
        · rename_i e
          rw [show off + k - (off + j * 1) = 0 by omega]
          rfl
        · exact hs k hk
      · rcases List.mem_or_eq_of_mem_set hw with hw | rfl
        · exact h1 w hw
        · exact hv
theorem builtin_clear (Q : Program) (t : Array TypeId) (x : AV) (H : Hp) : builtinA Q .clear t [x] H = (clearA Q t x H).map fun H => (undefA, H) := rfl
/-- what clear does behind a place -/
theorem clear_ok {H : Hp} {x : AV} {l : List AV} (h : Ow H 2 1 x l) (h0 : 0 < l.length) {k : Nat} (hk : k ≤ l.length) :
    ∃ y H', sll 1 x (some (.int .i64 (k : Nat))) none none = some y ∧ builtinA P .clear #[83] [y] H = some (undefA, H') ∧ Ow H' 2 1 x (l.take k ++ List.replicate (l.length - k) (.int .i64 0)) ∧ Out (rid x) H H' := by
  cases h with
  | nil => simp at h0
  | emp => simp at h0
  | @mk i off n cap ex _ c lo hi fl hi' hg hf hlo hhi hcap hn hcc hs h1 he =>
    have hb := sliceBnd_ok (len := n) (cap := cap) (a := k) (b := n) (lo := some (.int .i64 (k : Nat))) (hi := none) (by omega) (Nat.le_refl _) hcap (Bd.yes _ _ _) (Bd.no _)
    have hrl : (List.replicate (n - k) (AV.int .i64 0)).length = n - k := List.length_replicate
    obtain ⟨H', c', q1, q2, q3, q4, q5⟩ := setCells_get (List.replicate (n - k) (AV.int .i64 0)) H i (off + k * 1) c lo hi 2 fl hg hf (by omega) (by rw [hrl]; omega) (fun j hj => by
      rw [hrl] at hj
      have := hs (k + j) (by omega)
      rw [show off + k * 1 + j = off + (k + j) by omega]
      exact this) (fun u hu => by rw [List.eq_of_mem_replicate hu]; rfl)
    rw [hrl] at q5
    have hrep : ∀ m, rep m [AV.int .i64 0] = List.replicate m (AV.int .i64 0) := fun m => by
      induction m with
      | zero => rfl
      | succ m ih =>
        unfold rep at ih ⊢
        rw [List.replicate_succ, List.flatten_cons, ih, List.replicate_succ]
        rfl
    refine ⟨.slice i (off + k * 1) (n - k) (cap - k) (ex || false) 1, H', ?_, ?_, ?_, ⟨by omega, fun j hj hn' => q4 j fun e => hn' (by subst e; rw [rid_s he]; exact .head _)⟩⟩
    · unfold sll
      simp only [hb, Option.bind_some, if_true, Option.isSome_none]
    · rw [builtin_clear]
      have hz : zc P 2 = some [.int .i64 0] := by kernel_rfl
      have hu : P.underlying 83 = some (.slice 2) := Tryz.underlying83
      have : clearA P #[83] (.slice i (off + k * 1) (n - k) (cap - k) (ex || false) 1) H = setCells H i (off + k * 1) (rep (n - k) [.int .i64 0]) := by
        unfold clearA
        simp only [List.getElem?_toArray, List.getElem?_cons_zero, Option.bind_some, hu, hz]
      rw [this, hrep, q1]
      rfl
    · refine .mk (by omega) q3 hf hlo hhi hcap (by simp; omega) (fun j w hj => ?_) (fun j hj => ?_) (fun w hw => ?_) he
      · rw [q5]
        by_cases hjk : j < k
        · rw [List.getElem?_append_left (by rw [List.length_take]; omega), List.getElem?_take, if_pos hjk] at hj
          rw [if_neg (by omega)]
          exact hcc j w hj
        · rw [List.getElem?_append_right (by rw [List.length_take]; omega), List.length_take, Nat.min_eq_left hk] at hj
          have := (List.getElem?_eq_some_iff.1 hj).1
          rw [List.length_replicate] at this
          rw [if_pos ⟨by omega, by omega⟩, show off + j - (off + k * 1) = j - k by omega]
          rw [List.getElem?_replicate] at hj ⊢
          rw [if_pos (by omega)] at hj
          rw [if_pos (by omega)]
          exact hj
      · rw [q5]
        split
        · rw [List.getElem?_replicate, if_pos (by omega)]
          rfl
        · exact hs j hj
      · rcases List.mem_append.1 hw with hw | hw
        · exact h1 w (List.mem_of_mem_take hw)
        · rw [List.eq_of_mem_replicate hw]; rfl
/-- without neighbours alike -/
def gz : Int → List Int → List Int
  | _, [] => []
  | p, b :: r => if b = p then gz b r else b :: gz b r
def cmpZ : List Int → List Int
  | [] => []
  | a :: r => a :: gz a r
theorem gz_len : ∀ (p : Int) (r : List Int), (gz p r).length ≤ r.length
  | _, [] => Nat.le_refl _
  | p, b :: r => by
    have := gz_len b r
    unfold gz
    split <;> simp only [List.length_cons] <;> omega
theorem cmp_loop1 {j6 : K.Fn 1} {j14 : K.Fn 2} {n k0 : Nat} {x y : AV} (hn : n ≤ 16777216) (hyl : lenx y = some (.int .i64 ((n - k0 : Nat) : Int))) (hy : ∀ j, k0 + j < n → ia 1 y (.int .i64 (j : Nat)) = ia 1 x (.int .i64 ((k0 + j : Nat) : Int))) :
    ∀ (r : List Int) (m kk : Nat) (p : Int) (l : List Int) (H : Hp), l.length = n → m ≤ n → k0 < m → kk < m → l.drop (m - 1) = p :: r → Ow H 2 1 x (nums l) →
    ∃ l' H', (∀ k : K.Fn 2, l_slices_Compact___int64_int64_1 JN GO cK j6 j14 k x (.int .i64 (kk : Nat)) y (.int .i64 ((m - k0 : Nat) : Int)) H = k x (.int .i64 ((kk + (gz p r).length : Nat) : Int)) H') ∧ Ow H' 2 1 x (nums l') ∧ l'.length = n ∧ l'.take (kk + (gz p r).length) = l.take kk ++ gz p r ∧ Out (rid x) H H'
  | [], m, kk, p, l, H, hl, hm, h0, hkk, hd, hx => by
    have h1 := congrArg List.length hd
    rw [List.length_drop] at h1
    simp only [List.length_cons, List.length_nil] at h1
    have d : decide (((m - k0 : Nat) : Int) < ((n - k0 : Nat) : Int)) = false := decide_eq_false (by omega)
    refine ⟨l, H, fun k => ?_, hx, hl, by simp [gz], Out.refl _ _⟩
    rw [ql_slices_Compact___int64_int64_1]
    simp only [hyl, d, gz, List.length_nil, Nat.add_zero, JN_0, JN_1, JN_2, JN_3, JN_4, JN_5, JN_6, JN_7, JN_8, JN_9, JN_10, JN_11, JN_12, JN_13, JN_14, JN_15, JN_16, JN_17, JN_18, JN_19, JN_20, JN_21, JN_22, JN_23, JN_24, B1_s, B2_s, BN_s, CD_t, CD_f, GO_tt, GO_ft, GO_tf, GO_ff, GO_ut, GO_uf, GD2_tt, GD2_ft, GD2_tf, GD2_ff, pk_t, pk_f, nilA_p, nilA_i, fa_p, fd_a, ex_t, iadd_i, isub_i, imul_i, ieq_i, ine_i, ilt_i, ile_i, igt_i, ige_i, seq_s, sne_s, slt_s, lens_s, lenx_0, lenx_s, not_b, bb_e, bb_n, cv_i, pe_00, pe_0p, pe_p0, eqB_e, eqB_n, List.getElem?_cons_zero, List.getElem?_cons_succ, Nat.zero_add, Bool.not_true, Bool.not_false, decide_true, decide_false, Int.reduceBEq, Int.reduceBNe, Int.reduceLT, Int.reduceLE, Int.reduceGT, Int.reduceGE, Int.reduceNeg, BEq.rfl, bne_self_eq_false, ge_iff_le, gt_iff_lt]
  | b :: r, m, kk, p, l, H, hl, hm, h0, hkk, hd, hx => by
    obtain ⟨hp1, hp2, hp3⟩ := hd_drop hd
    rw [show m - 1 + 1 = m by omega] at hp3
    obtain ⟨hb1, hb2, hb3⟩ := hd_drop hp3
    have d : decide (((m - k0 : Nat) : Int) < ((n - k0 : Nat) : Int)) = true := decide_eq_true (by omega)
    obtain ⟨qb, u1, u2⟩ := hx.rw.ia1 (nums_get hb2) .i64
    obtain ⟨qp, u3, u4⟩ := hx.rw.ia1 (nums_get hp2) .i64
    have v1 := hy (m - k0) (by omega)
    rw [show k0 + (m - k0) = m by omega, u1] at v1
    have v2 := hy (m - k0 - 1) (by omega)
    rw [show k0 + (m - k0 - 1) = m - 1 by omega, u3] at v2
    have s1 : IntKind.wrap .i64 (((m - k0 : Nat) : Int) - 1) = ((m - k0 - 1 : Nat) : Int) := by rw [wrap_i64 (by omega) (by omega)]; omega
    have e1 : IntKind.wrap .i64 (((m - k0 : Nat) : Int) + 1) = ((m + 1 - k0 : Nat) : Int) := by rw [wrap_i64 (by omega) (by omega)]; omega
    by_cases hbp : b = p
    · subst hbp
      obtain ⟨l', H', i1, i2, i3, i4, i5⟩ := cmp_loop1 (j6 := j6) (j14 := j14) hn hyl hy r (m + 1) kk b l H hl (by omega) (by omega) (by omega) (by rw [Nat.add_sub_cancel]; exact hp3) hx
      have hg : gz b (b :: r) = gz b r := by rw [gz, if_pos rfl]
      rw [hg]
      refine ⟨l', H', fun k => ?_, i2, i3, i4, i5⟩
      have d2 : (b != b) = false := by simp
      rw [ql_slices_Compact___int64_int64_1]
      simp only [hyl, d, v1, u2, s1, v2, u4, d2, e1, i1, JN_0, JN_1, JN_2, JN_3, JN_4, JN_5, JN_6, JN_7, JN_8, JN_9, JN_10, JN_11, JN_12, JN_13, JN_14, JN_15, JN_16, JN_17, JN_18, JN_19, JN_20, JN_21, JN_22, JN_23, JN_24, B1_s, B2_s, BN_s, CD_t, CD_f, GO_tt, GO_ft, GO_tf, GO_ff, GO_ut, GO_uf, GD2_tt, GD2_ft, GD2_tf, GD2_ff, pk_t, pk_f, nilA_p, nilA_i, fa_p, fd_a, ex_t, iadd_i, isub_i, imul_i, ieq_i, ine_i, ilt_i, ile_i, igt_i, ige_i, seq_s, sne_s, slt_s, lens_s, lenx_0, lenx_s, not_b, bb_e, bb_n, cv_i, pe_00, pe_0p, pe_p0, eqB_e, eqB_n, List.getElem?_cons_zero, List.getElem?_cons_succ, Nat.zero_add, Bool.not_true, Bool.not_false, decide_true, decide_false, Int.reduceBEq, Int.reduceBNe, Int.reduceLT, Int.reduceLE, Int.reduceGT, Int.reduceGE, Int.reduceNeg, BEq.rfl, bne_self_eq_false, ge_iff_le, gt_iff_lt]
    · have d2 : (b != p) = true := by simp [hbp]
      obtain ⟨q, H1, w1, w2, w3, w4, w5⟩ := ow_set hx (j := kk) (by rw [nums_len]; omega) (v := .int .i64 b) rfl rfl
      have hset : (nums l).set kk (.int .i64 b) = nums (l.set kk b) := by simp [nums, List.map_set]
      rw [hset] at w3
      obtain ⟨l', H', i1, i2, i3, i4, i5⟩ := cmp_loop1 (j6 := j6) (j14 := j14) hn hyl hy r (m + 1) (kk + 1) b (l.set kk b) H1 (by rw [List.length_set]; exact hl) (by omega) (by omega) (by omega) (by rw [Nat.add_sub_cancel, List.drop_set_of_lt hkk]; exact hp3) w3
      have hg : gz p (b :: r) = b :: gz b r := by rw [gz, if_neg hbp]
      have e2 : IntKind.wrap .i64 (((kk : Nat) : Int) + 1) = ((kk + 1 : Nat) : Int) := by rw [wrap_i64 (by omega) (by omega)]; rfl
      have ht : (l.set kk b).take (kk + 1) = l.take kk ++ [b] := by
        rw [List.take_set, List.take_add_one, List.getElem?_eq_getElem (by omega)]
        have hlen : (l.take kk).length = kk := by rw [List.length_take]; omega
        rw [List.set_append_right _ _ (by omega), hlen, Nat.sub_self]
        rfl
      rw [hg, List.length_cons]
      refine ⟨l', H', fun k => ?_, i2, i3, ?_, w4.then i5 fun j hj => .inl hj⟩
      · rw [ql_slices_Compact___int64_int64_1]
        simp only [hyl, d, v1, u2, s1, v2, u4, d2, w1, w2, e2, e1, i1, JN_0, JN_1, JN_2, JN_3, JN_4, JN_5, JN_6, JN_7, JN_8, JN_9, JN_10, JN_11, JN_12, JN_13, JN_14, JN_15, JN_16, JN_17, JN_18, JN_19, JN_20, JN_21, JN_22, JN_23, JN_24, B1_s, B2_s, BN_s, CD_t, CD_f, GO_tt, GO_ft, GO_tf, GO_ff, GO_ut, GO_uf, GD2_tt, GD2_ft, GD2_tf, GD2_ff, pk_t, pk_f, nilA_p, nilA_i, fa_p, fd_a, ex_t, iadd_i, isub_i, imul_i, ieq_i, ine_i, ilt_i, ile_i, igt_i, ige_i, seq_s, sne_s, slt_s, lens_s, lenx_0, lenx_s, not_b, bb_e, bb_n, cv_i, pe_00, pe_0p, pe_p0, eqB_e, eqB_n, List.getElem?_cons_zero, List.getElem?_cons_succ, Nat.zero_add, Bool.not_true, Bool.not_false, decide_true, decide_false, Int.reduceBEq, Int.reduceBNe, Int.reduceLT, Int.reduceLE, Int.reduceGT, Int.reduceGE, Int.reduceNeg, BEq.rfl, bne_self_eq_false, ge_iff_le, gt_iff_lt]
        rw [show kk + 1 + (gz b r).length = kk + ((gz b r).length + 1) by omega]
      · rw [show kk + ((gz b r).length + 1) = kk + 1 + (gz b r).length by omega, i4, ht, List.append_assoc]
        rfl
theorem cmp_loop {x : AV} {zs : List Int} {H : Hp} (hn : zs.length ≤ 16777216) (hx : Ow H 2 1 x (nums zs)) : ∀ (r : List Int) (k : Nat) (p : Int), 0 < k → k ≤ zs.length → zs.drop (k - 1) = p :: r → cmpZ zs = zs.take k ++ gz p r →
    ∃ y H', l_slices_Compact___int64_int64_ JN GO cK (fun v h => some (v, h)) x (.int .i64 (k : Nat)) H = some (y, H') ∧ Ow H' 2 1 y (nums (cmpZ zs)) ∧ Out (rid x) H H' ∧ ∀ j ∈ rid y, j ∈ rid x
  | [], k, p, h0, hk, hd, hc => by
    have h1 := congrArg List.length hd
    rw [List.length_drop] at h1
    simp only [List.length_cons, List.length_nil] at h1
    have hkl : k = zs.length := by omega
    have hxl := hx.rw.len1
    rw [nums_len] at hxl
    have d : decide (((k : Nat) : Int) < ((zs.length : Nat) : Int)) = false := decide_eq_false (by omega)
    refine ⟨x, H, ?_, ?_, Out.refl _ _, fun j hj => hj⟩
    · rw [ql_slices_Compact___int64_int64_]
      simp only [hxl, d, JN_0, JN_1, JN_2, JN_3, JN_4, JN_5, JN_6, JN_7, JN_8, JN_9, JN_10, JN_11, JN_12, JN_13, JN_14, JN_15, JN_16, JN_17, JN_18, JN_19, JN_20, JN_21, JN_22, JN_23, JN_24, B1_s, B2_s, BN_s, CD_t, CD_f, GO_tt, GO_ft, GO_tf, GO_ff, GO_ut, GO_uf, GD2_tt, GD2_ft, GD2_tf, GD2_ff, pk_t, pk_f, nilA_p, nilA_i, fa_p, fd_a, ex_t, iadd_i, isub_i, imul_i, ieq_i, ine_i, ilt_i, ile_i, igt_i, ige_i, seq_s, sne_s, slt_s, lens_s, lenx_0, lenx_s, not_b, bb_e, bb_n, cv_i, pe_00, pe_0p, pe_p0, eqB_e, eqB_n, List.getElem?_cons_zero, List.getElem?_cons_succ, Nat.zero_add, Bool.not_true, Bool.not_false, decide_true, decide_false, Int.reduceBEq, Int.reduceBNe, Int.reduceLT, Int.reduceLE, Int.reduceGT, Int.reduceGE, Int.reduceNeg, BEq.rfl, bne_self_eq_false, ge_iff_le, gt_iff_lt]
    · rw [hc, gz, List.append_nil, List.take_of_length_le (by omega)]
      exact hx
  | b :: r, k, p, h0, hk, hd, hc => by
    obtain ⟨hp1, hp2, hp3⟩ := hd_drop hd
    rw [show k - 1 + 1 = k by omega] at hp3
    obtain ⟨hb1, hb2, hb3⟩ := hd_drop hp3
    have hxl := hx.rw.len1
    rw [nums_len] at hxl
    have d : decide (((k : Nat) : Int) < ((zs.length : Nat) : Int)) = true := decide_eq_true (by omega)
    obtain ⟨qb, u1, u2⟩ := hx.rw.ia1 (nums_get hb2) .i64
    obtain ⟨qp, u3, u4⟩ := hx.rw.ia1 (nums_get hp2) .i64
    have s1 : IntKind.wrap .i64 (((k : Nat) : Int) - 1) = ((k - 1 : Nat) : Int) := by rw [wrap_i64 (by omega) (by omega)]; omega
    have e1 : IntKind.wrap .i64 (((k : Nat) : Int) + 1) = ((k + 1 : Nat) : Int) := by rw [wrap_i64 (by omega) (by omega)]; rfl
    by_cases hbp : b = p
    · subst hbp
      have d2 : (b == b) = true := by simp
      have hg : gz b (b :: r) = gz b r := by rw [gz, if_pos rfl]
      rw [hg] at hc
      -- the part behind k
      have hsub : ∃ y, sll 1 x (some (.int .i64 (k : Nat))) none none = some y ∧ lenx y = some (.int .i64 ((zs.length - k : Nat) : Int)) ∧ ∀ j, k + j < zs.length → ia 1 y (.int .i64 (j : Nat)) = ia 1 x (.int .i64 ((k + j : Nat) : Int)) := by
        have hxx := hx
        generalize hz : nums zs = l at hxx
        have hll : l.length = zs.length := by rw [← hz, nums_len]
        cases hxx with
        | nil => simp at hll; omega
        | emp => simp at hll; omega
        | @mk i off n cap ex _ c lo hi fl hi' hg hf hlo hhi hcap hn' hcc hs h1 he =>
          have hnn : n = zs.length := by omega
          have hb := sliceBnd_ok (len := n) (cap := cap) (a := k) (b := n) (lo := some (.int .i64 (k : Nat))) (hi := none) (by omega) (Nat.le_refl _) hcap (Bd.yes _ _ _) (Bd.no _)
          refine ⟨.slice i (off + k * 1) (n - k) (cap - k) (ex || false) 1, ?_, ?_, fun j hj => ?_⟩
          · unfold sll
            simp only [hb, Option.bind_some, if_true, Option.isSome_none]
          · rw [lenx_s, hnn]
          · rw [ia_s (by omega), ia_s (by omega)]
            congr 2
            omega
      obtain ⟨y, y1, y2, y3⟩ := hsub
      obtain ⟨l', H1, i1, i2, i3, i4, i5⟩ := cmp_loop1 (j6 := fun v h => some (v, h)) (j14 := fun x84 x85 h86 => B1 (iadd x85 (.int .i64 1)) fun v90 => l_slices_Compact___int64_int64_ JN GO cK (fun v h => some (v, h)) x84 v90 h86) (x := x) (y := y) hn y2 y3 r (k + 1) k b zs H rfl (by omega) (by omega) (by omega) (by rw [Nat.add_sub_cancel]; exact hp3) hx
      rw [← hc] at i4
      have hgl := gz_len b r
      have hrl : r.length + (k + 1) = zs.length := by
        have := congrArg List.length hb3
        rw [List.length_drop] at this
        omega
      obtain ⟨y5, H2, c1, c2, c3, c4⟩ := clear_ok i2 (by rw [nums_len]; omega) (k := k + (gz b r).length) (by rw [nums_len]; omega)
      have hct : (nums l').take (k + (gz b r).length) = nums (cmpZ zs) := by rw [← i4]; simp [nums, List.map_take]
      rw [hct] at c3
      have hcl : (nums (cmpZ zs)).length = k + (gz b r).length := by rw [nums_len, ← i4, List.length_take]; omega
      obtain ⟨y6, t1, t2, t3⟩ := sll_ow (n := zs.length) (a := 0) (b := k + (gz b r).length) c3 (by rw [List.length_append, hcl, List.length_replicate, nums_len, i3]; omega) (by decide) (lo := none) (hi := some (.int .i64 ((k + (gz b r).length : Nat) : Int))) (Nat.zero_le _) (by omega) (Bd.no 0) (Bd.yes _ _ _)
      rw [Nat.zero_mul, List.drop_zero, Nat.sub_zero, Nat.mul_one, ← hcl, List.take_left' rfl] at t2
      have e11 : ((k + 1 - k : Nat) : Int) = 1 := by omega
      rw [e11] at i1
      refine ⟨y6, H2, ?_, t2, i5.then c4 fun j hj => .inl hj, t3⟩
      rw [ql_slices_Compact___int64_int64_]
      simp only [hxl, d, u1, u2, s1, u3, u4, d2, y1, i1, c1, c2, t1, JN_0, JN_1, JN_2, JN_3, JN_4, JN_5, JN_6, JN_7, JN_8, JN_9, JN_10, JN_11, JN_12, JN_13, JN_14, JN_15, JN_16, JN_17, JN_18, JN_19, JN_20, JN_21, JN_22, JN_23, JN_24, B1_s, B2_s, BN_s, CD_t, CD_f, GO_tt, GO_ft, GO_tf, GO_ff, GO_ut, GO_uf, GD2_tt, GD2_ft, GD2_tf, GD2_ff, pk_t, pk_f, nilA_p, nilA_i, fa_p, fd_a, ex_t, iadd_i, isub_i, imul_i, ieq_i, ine_i, ilt_i, ile_i, igt_i, ige_i, seq_s, sne_s, slt_s, lens_s, lenx_0, lenx_s, not_b, bb_e, bb_n, cv_i, pe_00, pe_0p, pe_p0, eqB_e, eqB_n, List.getElem?_cons_zero, List.getElem?_cons_succ, Nat.zero_add, Bool.not_true, Bool.not_false, decide_true, decide_false, Int.reduceBEq, Int.reduceBNe, Int.reduceLT, Int.reduceLE, Int.reduceGT, Int.reduceGE, Int.reduceNeg, BEq.rfl, bne_self_eq_false, ge_iff_le, gt_iff_lt]
    · have d2 : (b == p) = false := by simp [hbp]
      have hg : gz p (b :: r) = b :: gz b r := by rw [gz, if_neg hbp]
      obtain ⟨y, H', i1, i2, i3, i4⟩ := cmp_loop hn hx r (k + 1) b (by omega) (by omega) (by rw [Nat.add_sub_cancel]; exact hp3) (by rw [hc, hg, List.take_add_one, hb2]; simp)
      refine ⟨y, H', ?_, i2, i3, i4⟩
      rw [ql_slices_Compact___int64_int64_]
      simp only [hxl, d, u1, u2, s1, u3, u4, d2, e1, i1, JN_0, JN_1, JN_2, JN_3, JN_4, JN_5, JN_6, JN_7, JN_8, JN_9, JN_10, JN_11, JN_12, JN_13, JN_14, JN_15, JN_16, JN_17, JN_18, JN_19, JN_20, JN_21, JN_22, JN_23, JN_24, B1_s, B2_s, BN_s, CD_t, CD_f, GO_tt, GO_ft, GO_tf, GO_ff, GO_ut, GO_uf, GD2_tt, GD2_ft, GD2_tf, GD2_ff, pk_t, pk_f, nilA_p, nilA_i, fa_p, fd_a, ex_t, iadd_i, isub_i, imul_i, ieq_i, ine_i, ilt_i, ile_i, igt_i, ige_i, seq_s, sne_s, slt_s, lens_s, lenx_0, lenx_s, not_b, bb_e, bb_n, cv_i, pe_00, pe_0p, pe_p0, eqB_e, eqB_n, List.getElem?_cons_zero, List.getElem?_cons_succ, Nat.zero_add, Bool.not_true, Bool.not_false, decide_true, decide_false, Int.reduceBEq, Int.reduceBNe, Int.reduceLT, Int.reduceLE, Int.reduceGT, Int.reduceGE, Int.reduceNeg, BEq.rfl, bne_self_eq_false, ge_iff_le, gt_iff_lt]
theorem compact_c {H : Hp} {x : AV} {zs : List Int} (hx : Ow H 2 1 x (nums zs)) (hn : zs.length ≤ 16777216) :
    ∃ y H', cK (.func (.func 55) [] []) [x] H = some (y, H') ∧ Ow H' 2 1 y (nums (cmpZ zs)) ∧ Out (rid x) H H' ∧ ∀ j ∈ rid y, j ∈ rid x := by
  have hxl := hx.rw.len1
  rw [nums_len] at hxl
  by_cases h2 : zs.length < 2
  · have d : decide (((zs.length : Nat) : Int) < 2) = true := decide_eq_true (by omega)
    have hz : cmpZ zs = zs := by
      match zs, h2 with
      | [], _ => rfl
      | [a], _ => rfl
    refine ⟨x, H, c_slices_Compact___int64_int64_ ?_, by rw [hz]; exact hx, Out.refl _ _, fun j hj => hj⟩
    unfold s_slices_Compact___int64_int64_
    simp only [hxl, d, JN_0, JN_1, JN_2, JN_3, JN_4, JN_5, JN_6, JN_7, JN_8, JN_9, JN_10, JN_11, JN_12, JN_13, JN_14, JN_15, JN_16, JN_17, JN_18, JN_19, JN_20, JN_21, JN_22, JN_23, JN_24, B1_s, B2_s, BN_s, CD_t, CD_f, GO_tt, GO_ft, GO_tf, GO_ff, GO_ut, GO_uf, GD2_tt, GD2_ft, GD2_tf, GD2_ff, pk_t, pk_f, nilA_p, nilA_i, fa_p, fd_a, ex_t, iadd_i, isub_i, imul_i, ieq_i, ine_i, ilt_i, ile_i, igt_i, ige_i, seq_s, sne_s, slt_s, lens_s, lenx_0, lenx_s, not_b, bb_e, bb_n, cv_i, pe_00, pe_0p, pe_p0, eqB_e, eqB_n, List.getElem?_cons_zero, List.getElem?_cons_succ, Nat.zero_add, Bool.not_true, Bool.not_false, decide_true, decide_false, Int.reduceBEq, Int.reduceBNe, Int.reduceLT, Int.reduceLE, Int.reduceGT, Int.reduceGE, Int.reduceNeg, BEq.rfl, bne_self_eq_false, ge_iff_le, gt_iff_lt]
  · have d : decide (((zs.length : Nat) : Int) < 2) = false := decide_eq_false (by omega)
    obtain ⟨a, r, rfl⟩ : ∃ a r, zs = a :: r := by
      cases zs with
      | nil => simp at h2
      | cons a r => exact ⟨a, r, rfl⟩
    obtain ⟨y, H', i1, i2, i3, i4⟩ := cmp_loop hn hx r 1 a (by decide) (by omega) rfl rfl
    rw [show (((1 : Nat) : Int)) = 1 from rfl] at i1
    refine ⟨y, H', c_slices_Compact___int64_int64_ ?_, i2, i3, i4⟩
    unfold s_slices_Compact___int64_int64_
    simp only [hxl, d, JN_0, JN_1, JN_2, JN_3, JN_4, JN_5, JN_6, JN_7, JN_8, JN_9, JN_10, JN_11, JN_12, JN_13, JN_14, JN_15, JN_16, JN_17, JN_18, JN_19, JN_20, JN_21, JN_22, JN_23, JN_24, B1_s, B2_s, BN_s, CD_t, CD_f, GO_tt, GO_ft, GO_tf, GO_ff, GO_ut, GO_uf, GD2_tt, GD2_ft, GD2_tf, GD2_ff, pk_t, pk_f, nilA_p, nilA_i, fa_p, fd_a, ex_t, iadd_i, isub_i, imul_i, ieq_i, ine_i, ilt_i, ile_i, igt_i, ige_i, seq_s, sne_s, slt_s, lens_s, lenx_0, lenx_s, not_b, bb_e, bb_n, cv_i, pe_00, pe_0p, pe_p0, eqB_e, eqB_n, List.getElem?_cons_zero, List.getElem?_cons_succ, Nat.zero_add, Bool.not_true, Bool.not_false, decide_true, decide_false, Int.reduceBEq, Int.reduceBNe, Int.reduceLT, Int.reduceLE, Int.reduceGT, Int.reduceGE, Int.reduceNeg, BEq.rfl, bne_self_eq_false, ge_iff_le, gt_iff_lt]
    exact i1
theorem begin_lt : ∀ g l, (g, l) ∈ begin0 → g < 11 := by
  have h : (begin0.all fun q => Nat.blt q.1 11) = true := by kernel_rfl
  intro g l hg
  have := List.all_eq_true.1 h (g, l) hg
  simpa using this
theorem hasT_out {H H' : Hp} (h : hasT H begin0) (hn : 11 ≤ H.next) (k : Out [] H H') : hasT H' begin0 := by
  obtain ⟨el, h⟩ := h
  refine ⟨el, fun g l hg => ?_⟩
  have := begin_lt g l hg
  rw [k.2 g (by omega) (fun q => by cases q)]
  exact h g l hg
def strs (l : List (List Nat)) : List AV := l.map AV.str
theorem strs_len (l : List (List Nat)) : (strs l).length = l.length := by simp [strs]
theorem strs_get {l : List (List Nat)} {j : Nat} {z : List Nat} (h : l[j]? = some z) : (strs l)[j]? = some (.str z) := by simp [strs, h]
def pickL : List (List Nat) → List Int
  | [] => []
  | s :: r => if (sps s).2 = true then ((sps s).1 : Int) :: pickL r else pickL r
theorem pick_loop {H0 : Hp} {x : AV} {ns : List (List Nat)} (hx : Rw H0 1 x (strs ns)) (hT : hasT H0 begin0) (hn : 11 ≤ H0.next) (hl : ns.length ≤ 1000) (hs : ∀ s ∈ ns, s.length ≤ 281474976710656) : ∀ (r : List (List Nat)) (i : Nat) (s : AV) (A : List Int) (H : Hp), ns.drop i = r → i ≤ ns.length → Out [] H0 H → Ow H 2 1 s (nums A) → (∀ j ∈ rid s, H0.next ≤ j) → A.length ≤ i →
    ∃ s' H', (∀ k : K.Fn 1, l_seg_Pick JN GO cK k s x (.int .i64 (ns.length : Nat)) (.int .i64 (i : Nat)) H = k s' H') ∧ Out [] H0 H' ∧ Ow H' 2 1 s' (nums (A ++ pickL r)) ∧ (∀ j ∈ rid s', H0.next ≤ j) ∧ (A ++ pickL r).length ≤ ns.length
  | [], i, s, A, H, hr, hi, ho, hsl, hrd, hA => by
    have : ns.length ≤ i := by simpa using hr
    have d : decide (((i : Nat) : Int) < ((ns.length : Nat) : Int)) = false := decide_eq_false (by omega)
    refine ⟨s, H, fun k => ?_, ho, by simpa [pickL] using hsl, hrd, by simp [pickL]; omega⟩
    rw [ql_seg_Pick]
    simp only [d, JN_0, JN_1, JN_2, JN_3, JN_4, JN_5, JN_6, JN_7, JN_8, JN_9, JN_10, JN_11, JN_12, JN_13, JN_14, JN_15, JN_16, JN_17, JN_18, JN_19, JN_20, JN_21, JN_22, JN_23, JN_24, B1_s, B2_s, BN_s, CD_t, CD_f, GO_tt, GO_ft, GO_tf, GO_ff, GO_ut, GO_uf, GD2_tt, GD2_ft, GD2_tf, GD2_ff, pk_t, pk_f, nilA_p, nilA_i, fa_p, fd_a, ex_t, iadd_i, isub_i, imul_i, ieq_i, ine_i, ilt_i, ile_i, igt_i, ige_i, seq_s, sne_s, slt_s, lens_s, lenx_0, lenx_s, not_b, bb_e, bb_n, cv_i, pe_00, pe_0p, pe_p0, eqB_e, eqB_n, List.getElem?_cons_zero, List.getElem?_cons_succ, Nat.zero_add, Bool.not_true, Bool.not_false, decide_true, decide_false, Int.reduceBEq, Int.reduceBNe, Int.reduceLT, Int.reduceLE, Int.reduceGT, Int.reduceGE, Int.reduceNeg, BEq.rfl, bne_self_eq_false, ge_iff_le, gt_iff_lt]
  | c :: r, i, s, A, H, hr, hi, ho, hsl, hrd, hA => by
    obtain ⟨hi', hv, hr'⟩ := hd_drop hr
    have d : decide (((i : Nat) : Int) < ((ns.length : Nat) : Int)) = true := decide_eq_true (by omega)
    obtain ⟨q, u1, u2⟩ := (hx.out ho fun j _ q => by cases q).ia1 (strs_get hv) .i64
    have hp := parse_c an (vsA (hasT_out hT hn ho)) c (hs c (List.mem_of_getElem? hv))
    have e3 : IntKind.wrap .i64 (((i : Nat) : Int) + 1) = ((i + 1 : Nat) : Int) := by rw [wrap_i64 (by omega) (by omega)]; rfl
    by_cases hok : (sps c).2 = true
    · obtain ⟨H1, n1, n2, n3, n4⟩ := newCells_ok H [.int .i64 (((sps c).1 : Nat) : Int)] 2 0 (by simp)
      have hrow : Rw H1 1 (.slice H.next 0 1 1 true 1) (nums [(((sps c).1 : Nat) : Int)]) := .mk n2.ro rfl (Nat.le_refl _) rfl
      have hs1 := hsl.out n3 fun j _ q => by cases q
      obtain ⟨s', H2, a1, a2, a3, a4⟩ := append_ok (z := [.int .i64 0]) hs1 hrow (nums_one _) (by omega) (by rw [nums_len, nums_len]; simp; omega)
      rw [← nums_app] at a2
      have o2 : Out [] H0 H2 := (ho.trans n3).then a3 fun j hj => .inr (hrd j hj)
      have hrd2 : ∀ j ∈ rid s', H0.next ≤ j := fun j hj => (a4 j hj).elim (hrd j) fun q => Nat.le_trans (ho.trans n3).1 q
      obtain ⟨s2, H3, b1, b2, b3, b4, b5⟩ := pick_loop hx hT hn hl hs r (i + 1) s' _ H2 hr' (by omega) o2 a2 hrd2 (by simp; omega)
      have hpk : pickL (c :: r) = (((sps c).1 : Nat) : Int) :: pickL r := by rw [pickL, if_pos hok]
      rw [hpk]
      rw [List.append_assoc] at b3 b5
      refine ⟨s2, H3, fun k => ?_, b2, b3, b4, b5⟩
      have hf : fl [.int .i64 0] [(0, 1, AV.int .i64 (((sps c).1 : Nat) : Int))] = some [.int .i64 (((sps c).1 : Nat) : Int)] := rfl
      rw [ql_seg_Pick]
      rw [hok] at hp
      simp only [d, u1, u2, hp, hf, n1, a1, e3, b1, JN_0, JN_1, JN_2, JN_3, JN_4, JN_5, JN_6, JN_7, JN_8, JN_9, JN_10, JN_11, JN_12, JN_13, JN_14, JN_15, JN_16, JN_17, JN_18, JN_19, JN_20, JN_21, JN_22, JN_23, JN_24, B1_s, B2_s, BN_s, CD_t, CD_f, GO_tt, GO_ft, GO_tf, GO_ff, GO_ut, GO_uf, GD2_tt, GD2_ft, GD2_tf, GD2_ff, pk_t, pk_f, nilA_p, nilA_i, fa_p, fd_a, ex_t, iadd_i, isub_i, imul_i, ieq_i, ine_i, ilt_i, ile_i, igt_i, ige_i, seq_s, sne_s, slt_s, lens_s, lenx_0, lenx_s, not_b, bb_e, bb_n, cv_i, pe_00, pe_0p, pe_p0, eqB_e, eqB_n, List.getElem?_cons_zero, List.getElem?_cons_succ, Nat.zero_add, Bool.not_true, Bool.not_false, decide_true, decide_false, Int.reduceBEq, Int.reduceBNe, Int.reduceLT, Int.reduceLE, Int.reduceGT, Int.reduceGE, Int.reduceNeg, BEq.rfl, bne_self_eq_false, ge_iff_le, gt_iff_lt]
    · have hok' : (sps c).2 = false := by simpa using hok
      obtain ⟨s2, H3, b1, b2, b3, b4, b5⟩ := pick_loop hx hT hn hl hs r (i + 1) s _ H hr' (by omega) ho hsl hrd (by omega)
      have hpk : pickL (c :: r) = pickL r := by rw [pickL, if_neg hok]
      rw [hpk]
      refine ⟨s2, H3, fun k => ?_, b2, b3, b4, b5⟩
      rw [ql_seg_Pick]
      rw [hok'] at hp
      simp only [d, u1, u2, hp, e3, b1, JN_0, JN_1, JN_2, JN_3, JN_4, JN_5, JN_6, JN_7, JN_8, JN_9, JN_10, JN_11, JN_12, JN_13, JN_14, JN_15, JN_16, JN_17, JN_18, JN_19, JN_20, JN_21, JN_22, JN_23, JN_24, B1_s, B2_s, BN_s, CD_t, CD_f, GO_tt, GO_ft, GO_tf, GO_ff, GO_ut, GO_uf, GD2_tt, GD2_ft, GD2_tf, GD2_ff, pk_t, pk_f, nilA_p, nilA_i, fa_p, fd_a, ex_t, iadd_i, isub_i, imul_i, ieq_i, ine_i, ilt_i, ile_i, igt_i, ige_i, seq_s, sne_s, slt_s, lens_s, lenx_0, lenx_s, not_b, bb_e, bb_n, cv_i, pe_00, pe_0p, pe_p0, eqB_e, eqB_n, List.getElem?_cons_zero, List.getElem?_cons_succ, Nat.zero_add, Bool.not_true, Bool.not_false, decide_true, decide_false, Int.reduceBEq, Int.reduceBNe, Int.reduceLT, Int.reduceLE, Int.reduceGT, Int.reduceGE, Int.reduceNeg, BEq.rfl, bne_self_eq_false, ge_iff_le, gt_iff_lt]
def pickZ (ns : List (List Nat)) : List Int := cmpZ (sortZ (pickL ns))
theorem pick_c {H : Hp} {x : AV} {ns : List (List Nat)} (hx : Rw H 1 x (strs ns)) (hT : hasT H begin0) (hn : 11 ≤ H.next) (hl : ns.length ≤ 1000) (hs : ∀ s ∈ ns, s.length ≤ 281474976710656) :
    ∃ y H', cK (.func (.func 37) [] []) [x] H = some (y, H') ∧ Out [] H H' ∧ Ow H' 2 1 y (nums (pickZ ns)) := by
  have hxl := hx.len1
  rw [strs_len] at hxl
  obtain ⟨s, H1, a1, a2, a3, a4, a5⟩ := pick_loop hx hT hn hl hs ns 0 .slice0 [] H rfl (Nat.zero_le _) (Out.refl _ _) .nil (fun j hj => by cases hj) (Nat.le_refl _)
  rw [List.nil_append] at a3 a5
  rw [show (((0 : Nat) : Int)) = 0 from rfl] at a1
  obtain ⟨H2, b1, b2, b3⟩ := sort_c a3 (by omega)
  obtain ⟨y, H3, c1, c2, c3, c4⟩ := compact_c b2 (by rw [sortZ_len]; omega)
  refine ⟨y, H3, c_seg_Pick ?_, (a2.then b3 fun j hj => .inr (a4 j hj)).then c3 fun j hj => .inr (a4 j hj), c2⟩
  unfold s_seg_Pick
  simp only [hxl, a1, b1, c1, JN_0, JN_1, JN_2, JN_3, JN_4, JN_5, JN_6, JN_7, JN_8, JN_9, JN_10, JN_11, JN_12, JN_13, JN_14, JN_15, JN_16, JN_17, JN_18, JN_19, JN_20, JN_21, JN_22, JN_23, JN_24, B1_s, B2_s, BN_s, CD_t, CD_f, GO_tt, GO_ft, GO_tf, GO_ff, GO_ut, GO_uf, GD2_tt, GD2_ft, GD2_tf, GD2_ff, pk_t, pk_f, nilA_p, nilA_i, fa_p, fd_a, ex_t, iadd_i, isub_i, imul_i, ieq_i, ine_i, ilt_i, ile_i, igt_i, ige_i, seq_s, sne_s, slt_s, lens_s, lenx_0, lenx_s, not_b, bb_e, bb_n, cv_i, pe_00, pe_0p, pe_p0, eqB_e, eqB_n, List.getElem?_cons_zero, List.getElem?_cons_succ, Nat.zero_add, Bool.not_true, Bool.not_false, decide_true, decide_false, Int.reduceBEq, Int.reduceBNe, Int.reduceLT, Int.reduceLE, Int.reduceGT, Int.reduceGE, Int.reduceNeg, BEq.rfl, bne_self_eq_false, ge_iff_le, gt_iff_lt]
/-! plain: what is picked -/
theorem pickL_mem : ∀ (ns : List (List Nat)) (z : Int), z ∈ pickL ns ↔ ∃ s ∈ ns, (sps s).2 = true ∧ z = ((sps s).1 : Int)
  | [], z => by simp [pickL]
  | c :: r, z => by
    have ih := pickL_mem r z
    rw [pickL]
    split
    · rename_i h
      rw [List.mem_cons, ih]
      constructor
      · rintro (rfl | ⟨s, a, b⟩)
        · exact ⟨c, .head _, h, rfl⟩
        · exact ⟨s, .tail _ a, b⟩
      · rintro ⟨s, a, b, e⟩
        rcases List.mem_cons.1 a with rfl | a
        · exact .inl e
        · exact .inr ⟨s, a, b, e⟩
    · rename_i h
      rw [ih]
      constructor
      · rintro ⟨s, a, b⟩
        exact ⟨s, .tail _ a, b⟩
      · rintro ⟨s, a, b, e⟩
        rcases List.mem_cons.1 a with rfl | a
        · exact absurd b h
        · exact ⟨s, a, b, e⟩
theorem gz_mem : ∀ (p : Int) (r : List Int) (x : Int), x ∈ p :: gz p r ↔ x ∈ p :: r
  | p, [], x => by simp [gz]
  | p, b :: r, x => by
    have ih := gz_mem b r x
    rw [gz]
    split
    · rename_i h
      subst h
      rw [ih]
      simp
    · rw [List.mem_cons, ih]
      simp
theorem cmpZ_mem (l : List Int) (x : Int) : x ∈ cmpZ l ↔ x ∈ l := by
  cases l with
  | nil => rfl
  | cons a r => exact gz_mem a r x
theorem pickZ_mem (ns : List (List Nat)) (z : Int) : z ∈ pickZ ns ↔ ∃ s ∈ ns, (sps s).2 = true ∧ z = ((sps s).1 : Int) := by
  unfold pickZ
  rw [cmpZ_mem, ← pickL_mem]
  exact (List.mergeSort_perm _ _).mem_iff
/-! the law's loops -/

end Go.Proofs.YtbdlbhlhnpblpaaGreatDoor.SgK
namespace Go.Proofs.YtbdlbhlhnpblpaaGreatDoor.WlK
open Go Am Am.K WlEnv Sg SegPrim SgN SgK StC
set_option linter.unusedVariables false
set_option linter.unusedSimpArgs false
set_option maxRecDepth 10000
theorem pad_mem : ∀ (k n : Nat) (x : UInt8), x ∈ pad k n → ∃ d : Fin 16, x = hd d
  | 0, n, x, h => by cases h
  | k + 1, n, x, h => by
    rcases List.mem_append.1 h with h | h
    · exact pad_mem k _ x h
    · exact ⟨⟨n % 16, Nat.mod_lt _ (by decide)⟩, by simpa using h⟩
theorem nms_in {a : Int} (h : inN a = true) : ∀ x ∈ nms a, cutN.contains x = true := by
  have key : ∀ d : Fin 16, cutN.contains (hd d).toNat = true := by decide
  intro x hx
  rw [nms_t h] at hx
  obtain ⟨y, hy, rfl⟩ := List.mem_map.1 hx
  unfold nm at hy
  rcases List.mem_cons.1 hy with rfl | hy
  · decide
  rcases List.mem_cons.1 hy with rfl | hy
  · decide
  obtain ⟨d, rfl⟩ := pad_mem _ _ _ hy
  exact key d
theorem dropW_all {α : Type} {p : α → Bool} : ∀ (l : List α), (∀ x ∈ l, p x = true) → l.dropWhile p = []
  | [], _ => rfl
  | x :: l, h => by
    rw [List.dropWhile_cons, if_pos (h x (.head _))]
    exact dropW_all l fun y hy => h y (.tail _ hy)
theorem okName_nms {a : Int} (h : inN a = true) : okName (nms a) = true := by
  have hl := nms_len h
  have ht : trimN (nms a) cutN = [] := by
    rw [trimN_eq]
    have : (nms a).reverse.dropWhile (cutN.contains ·) = [] := dropW_all _ fun x hx => nms_in h x (List.mem_reverse.1 hx)
    rw [this]; rfl
  have hne : (nms a == []) = false := by
    cases hq : nms a with
    | nil => rw [hq] at hl; cases hl
    | cons x l => rfl
  unfold okName
  rw [hne, hl, ht]
  rfl
/-- a store in which there is room: it takes bytes, and grows by just these -/
theorem app_some {H : Hp} {p : Nat} {m : SM} {L : Lay} (h : St H p m L) {at' b : List Nat} (ho : m.off = false) (hf : m.fuse = 0) (hn : okName at' = true) (hr : sumB m.fs + b.length ≤ m.room) (hm : m.fs.length < 64) :
    ∃ m', appM m at' b = (0, m') ∧ m'.off = false ∧ m'.fuse = 0 ∧ m'.room = m.room ∧ sumB m'.fs = sumB m.fs + b.length ∧ m'.fs.length ≤ m.fs.length + 1 := by
  have hB : burnB m = true := by unfold burnB; rw [hf]; rfl
  have hM : burnM m = m := by unfold burnM; rw [if_pos hf]
  unfold appM
  rcases h.lookC at' with ⟨r1, r2, r3⟩ | ⟨a, x, c, r1, r2, r3, r4, r5, r6⟩
  · have hE : ofE m at' = 4 := by unfold ofE; rw [r2, hn, ho]; rfl
    rw [if_neg (by rw [hE]; decide), if_neg (by rw [r2]; simp; omega), if_neg (by rw [hB]; decide), hM, r2]
    exact ⟨_, rfl, ho, hf, rfl, by rw [sumB_app, sumB_cons]; rfl, by simp⟩
  · have hE : ofE m at' = 0 := by unfold ofE; rw [r6, hn, ho]; rfl
    rw [if_neg (by rw [hE]; decide), if_neg (by rw [r6]; simp; omega), if_neg (by rw [hB]; decide), hM, r6]
    refine ⟨_, rfl, ho, hf, rfl, ?_, by simp [setF]⟩
    have := h.sum_set r1 (by rw [r2]; exact r3) (by rw [r2]; exact r4) ⟨x.f.nm, x.f.b ++ b, x.f.sure⟩
    simp only [List.length_append] at this
    rw [r2] at this
    show sumB (setF at' ⟨x.f.nm, x.f.b ++ b, x.f.sure⟩ m.fs) = _
    rw [r2]
    omega
end Go.Proofs.YtbdlbhlhnpblpaaGreatDoor.WlK
