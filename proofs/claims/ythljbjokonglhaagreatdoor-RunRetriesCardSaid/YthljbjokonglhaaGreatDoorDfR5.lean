/- What a run's New, Done, Fail do, as contracts over the symbolic heap. Conditions: as each states them. -/
import Derived.Test.YthljbjokonglhaaGreatDoorDfR4
namespace Go.Proofs.YthljbjokonglhaaGreatDoor.DfK
open Go Am Am.K DfEnv DfM LibP DfG
set_option linter.unusedVariables false
set_option linter.unusedSimpArgs false
set_option maxRecDepth 10000
set_option maxHeartbeats 1000000
theorem mks_n {H : Hp} {z : List AV} {el n s : Nat} (k j : IntKind) (hn : n ≤ 1048576) (hl : n * z.length ≤ 16777216) : mks z el s (.int k n) (.int j n) H = some (.slice H.next 0 n n true s, al H (List.replicate n z).flatten el 0) := by
  unfold mks
  have hr : rep n z = (List.replicate n z).flatten := by
    unfold rep
    rfl
  have hlen : (List.replicate n z).flatten.length = n * z.length := by simp
  simp only
  rw [if_pos ⟨by omega, by omega, by omega⟩, Int.toNat_natCast, hr, newCells_al (by rw [hlen]; omega)]
  rfl
/-! New -/
abbrev rt0 : RT := ⟨0, 0, 0, []⟩
noncomputable def newM (ts : List Tk) : Rn × Int := if goodM ts = 0 then (settleM ⟨ts, 0, List.replicate ts.length rt0, []⟩, 0) else (Rn0, goodM ts)
theorem new_c {H : Hp} {dx : AV} {xs : List AV} {ts : List Tk} (h : RD H dx xs ts) (hn : ts.length ≤ 1000) (hal : ∀ t ∈ ts, t.after.length ≤ 1000) :
    Ans (.func (.func 17) [] []) [dv dx] H (newM ts).1 (newM ts).2 := by
  have hd1 := h.row.one
  have hbx : bx 25 (.agg [dx]) H = some (H.next, al H [dx] 25 0) := bx_alA (by simp)
  have o1 := al_out H [dx] 25 0
  have c1 := al_cs H [dx] 25 0
  have n1 : (al H [dx] 25 0).next = H.next + 1 := rfl
  generalize al H [dx] 25 0 = H1 at *
  have o2 := al_out H1 zR 47 0
  have c2 := al_cs H1 zR 47 0
  have n2 : (al H1 zR 47 0).next = H.next + 2 := by rw [al_nx, n1]
  rw [n1] at c2
  generalize hA2 : al H1 zR 47 0 = H2 at *
  have o12 := o1.trans o2
  have cP2 := c1.out o2 (by simp)
  have k1 : cellsAt H2 H.next 0 1 = some [dx] := cP2.cellsAt 1 0 (by simp)
  obtain ⟨H3, g1, o3⟩ := dgood_c (ts := ts) (by omega) (fun t ht => by have := hal t ht; omega) (h.out0 o12)
  have n3 := o3.nx
  have o13 := o12.trans o3
  have cP3 := cP2.out o3 (by simp)
  have cQ3 := c2.out o3 (by simp)
  unfold newM
  by_cases h0 : goodM ts = 0
  · rw [if_pos h0]
    have hq : 1 ≤ ts.length ∧ ts.length ≤ 16 ∧ aftAll ts := by
      have h := h0
      unfold goodM at h
      split at h
      · cases h
      · rename_i h1
        split at h
        · cases h
        · split at h
          · cases h
          · split at h
            · cases h
            · split at h
              · cases h
              · rename_i h4
                have h1 := Decidable.not_not.1 h1
                exact ⟨h1.1, h1.2, any_p4 (by simpa using h4)⟩
    rw [h0] at g1
    have k2 : cellsAt H3 H.next 0 1 = some [dx] := cP3.cellsAt 1 0 (by simp)
    have k3 : cellAt H3 H.next 0 = some dx := cP3.cellAt rfl
    have hR3 := h.out0 o13
    have hdl := hR3.lenx
    have hfl : (List.replicate ts.length [(AV.int .i64 0), (.int .i64 0), (.int .i64 0), (.str [])]).flatten = (rts (List.replicate ts.length rt0)).flatten := by
      simp [rts, rtC]
    have hmk := mks_n (H := H3) (z := [(.int .i64 0), (.int .i64 0), (.int .i64 0), (.str [])]) (el := 51) (s := 4) (n := ts.length) .i64 .i64 (by omega) (by simp; omega)
    rw [hfl] at hmk
    have o4 := al_out H3 (rts (List.replicate ts.length rt0)).flatten 51 0
    have cM := al_cs H3 (rts (List.replicate ts.length rt0)).flatten 51 0
    have n4 : (al H3 (rts (List.replicate ts.length rt0)).flatten 51 0).next = H3.next + 1 := rfl
    generalize al H3 (rts (List.replicate ts.length rt0)).flatten 51 0 = H4 at *
    have hlen4 : (rts (List.replicate ts.length rt0)).flatten.length = ts.length * 4 := by rw [flatten_len (rts_four _), rts_len, List.length_replicate]
    have hT4 : RL H4 4 (.slice H3.next 0 ts.length ts.length true 4) (rts (List.replicate ts.length rt0)) := ⟨.mk cM.ro (by rw [hlen4]) (Nat.le_refl _) (by rw [Bool.true_and, ← Bool.not_eq_true, Nat.beq_eq]; omega), rts_four _⟩
    have hV4 : RV H4 dx xs (.slice H3.next 0 ts.length ts.length true 4) .slice0 ⟨ts, 0, List.replicate ts.length rt0, []⟩ := ⟨hR3.out0 o4, hT4, .nil⟩
    
    have hOk : Okr ⟨ts, 0, List.replicate ts.length rt0, []⟩ := ⟨⟨hn, hal, by rw [List.length_replicate]; omega, by simp⟩, by simp, fun t ht a ha => by
      obtain ⟨i, hi⟩ := List.getElem?_of_mem ht
      have := (aft_all hq.2.2 hi).1 a ha
      exact ⟨this.1, by show a < (ts.length : Int); omega⟩⟩
    obtain ⟨dx', xs', tx', sx', H5, r1, r2, r3, r4⟩ := clone_c hV4 hOk.sm
    have n5 := r3.nx
    have r1' : cK (.func (.func 44) [] []) [.agg [dx, .int .i64 0, .slice H3.next 0 ts.length ts.length true 4, .slice0]] H4 = some (.agg (rv dx' 0 tx' sx'), H5) := r1
    have o5 := al_out H5 (rv dx' 0 tx' sx') 47 0
    have cA := al_cs H5 (rv dx' 0 tx' sx') 47 0
    have stA : st 4 (.ptr H5.next 0) (.agg (rv dx' 0 tx' sx')) (al H5 zR 47 0) = some (al H5 (rv dx' 0 tx' sx') 47 0) := st_alN (by simp [r2.v.d.row.one, r2.t.rl.one, r2.s.oneX, oneC_i]) rfl rfl (by decide) rfl
    have n6 : (al H5 (rv dx' 0 tx' sx') 47 0).next = H5.next + 1 := rfl
    have hncA : newCells H5 zR 47 0 = some (H5.next, al H5 zR 47 0) := newCells_al (by simp)
    generalize hA6 : al H5 (rv dx' 0 tx' sx') 47 0 = H6 at *
    have fl5 := r2.v.lt
    obtain ⟨H7, s1, s2, s3, s4⟩ := settle_c (R := ⟨ts, 0, List.replicate ts.length rt0, []⟩) cA (r2.out0 o5) (fun z => by have := fl5 _ z; omega) hOk.sm hOk.len hOk.aft
    have htx : ∀ j ∈ H5.next :: rid tx', H4.next ≤ j := fun j hj => by
      rcases List.mem_cons.1 hj with rfl | hj
      · exact n5
      · exact r4 j (List.mem_append_right _ (List.mem_append_left _ hj))
    have hQ7 : Cs H7 (H.next + 1) zR 47 0 := (((cQ3.out o4 (by simp)).out r3 (by simp)).out o5 (by simp)).out s4 fun z => by have := htx _ z; omega
    generalize settleM ⟨ts, 0, List.replicate ts.length rt0, []⟩ = R7 at *
    have kA7 : cellsAt H7 H5.next 0 4 = some (rv dx' R7.st tx' sx') := s2.cellsAt 4 0 (by simp)
    obtain ⟨H8, w1, w2, w3, w4⟩ := stAll (n := 4) (vs := rv dx' R7.st tx' sx') hQ7 rfl rfl (by simp [r2.v.d.row.one, r2.t.rl.one, r2.s.oneX, oneC_i])
    have kQ : cellsAt H8 (H.next + 1) 0 4 = some (rv dx' R7.st tx' sx') := w2.cellsAt 4 0 (by simp)
    have k4 : cellsAt H4 H.next 0 1 = some [dx] := (cP3.out o4 (by simp)).cellsAt 1 0 (by simp)
    have fl1 : fl zR [(0, 1, .agg [dx]), (2, 1, .slice H3.next 0 ts.length ts.length true 4)] = some [dx, .int .i64 0, .slice H3.next 0 ts.length ts.length true 4, .slice0] := by
      rw [fl_consN (l := [dx]) (n := 1) rfl (by simp), fl_cons1 rfl (by simp), fl_nil]; rfl
    have smd : same (.agg [dx]) (.agg [dx]) = true := by
      show sameL _ _ = true
      unfold sameL
      rw [sameS_rw h.row.1]; rfl
    have d0 : ((0 : Int) != 0) = false := rfl
    have out := outNew (outNew (((o13.trans o4).trans r3).trans o5) s4 fun j hj => by have := htx j hj; omega) w3 (one_ge (Nat.le_succ _))
    refine ⟨dx', xs', tx', sx', H8, c_run_New ?_, s3.out w3 (fun j hj => by rw [List.mem_singleton]; have := r4 j hj; omega), out, fun j hj => by have := r4 j hj; omega⟩
    unfold s_run_New
    simp (disch := (first | assumption | omega | (simp only [k_d, k_c, Nat.reduceAdd, Nat.reduceLeDiff, Nat.reduceLT] <;> fail) | (simp only [k_c]; omega) | (simp only [k_d, k_c, Nat.reduceAdd, Nat.reduceLeDiff, Nat.reduceLT, *] <;> fail) | fail)) only [hbx, n1, hA2, k1, g1, d0, k2, k3, hdl, hmk, fl1, r1', hncA, stA, k4, SM_t smd, s1, kA7, w1, kQ, k_a, k_b, Nat.reduceAdd, k_s, k_x, Int.reduceBEq, Int.reduceBNe, Int.reduceLT, Int.reduceLE, Int.reduceGT, Int.reduceGE, Int.reduceNeg]
  · rw [if_neg h0]
    have d0 : (goodM ts != 0) = true := by simp [h0]
    obtain ⟨H4, w1, w2, w3, w4⟩ := stAll (n := 4) (vs := zR) cQ3 rfl rfl rfl
    have k5 : cellsAt H4 (H.next + 1) 0 4 = some zR := w2.cellsAt 4 0 (by simp)
    refine Ans.err (c_run_New (?_ : _ = some (_, H4))) o13 w3 (Nat.le_succ _)
    unfold s_run_New
    simp (disch := (first | assumption | omega | (simp only [k_d, k_c, Nat.reduceAdd, Nat.reduceLeDiff, Nat.reduceLT] <;> fail) | (simp only [k_c]; omega) | (simp only [k_d, k_c, Nat.reduceAdd, Nat.reduceLeDiff, Nat.reduceLT, *] <;> fail) | fail)) only [hbx, n1, hA2, k1, g1, d0, w1, k5, k_a, k_b, Nat.reduceAdd, k_s, k_x, Int.reduceBEq, Int.reduceBNe, Int.reduceLT, Int.reduceLE, Int.reduceGT, Int.reduceGE, Int.reduceNeg]
/-! Done -/
theorem Okr.set {R : Rn} (h : Okr R) (i : Nat) (t : RT) : Okr { R with rs := R.rs.set i t } := ⟨⟨h.sm.n, h.sm.a, by rw [List.length_set]; exact h.sm.r, h.sm.s⟩, by rw [List.length_set]; exact h.len, h.aft⟩
end Go.Proofs.YthljbjokonglhaaGreatDoor.DfK
