/- The walk of package keys' All: the entries in their order. -/
import Derived.Test.YtgcmklheifjciaaKeysWalks
set_option linter.unusedVariables false
set_option linter.unusedSimpArgs false
namespace Go.Proofs.Ytgcmklheifjciaa.KyW
open Go.RowKit Hp

def ent (p : Ky.K × Int) : List Value := [.string p.1.1, .string p.1.2, .int .i64 p.2]
theorem info_entry : (Try.prog.info? 36).map (fun i => (i.zero, i.size, i.bytes)) = some (some (.agg #[.string ⟨#[]⟩, .string ⟨#[]⟩, .int .i64 0]), 3, 40) := by kernel_rfl

theorem flat_len {α : Type} (f : α → List Value) (n : Nat) (hf : ∀ x, (f x).length = n) (l : List α) : (l.flatMap f).length = l.length * n := by
  induction l with
  | nil => simp
  | cons x l ih => rw [List.flatMap_cons, List.length_append, hf, ih, List.length_cons, Nat.succ_mul]; omega
/-- the cells of element k -/
theorem flat_get {α : Type} (f : α → List Value) (n : Nat) (hf : ∀ x, (f x).length = n) : ∀ (l : List α) (k : Nat) (hk : k < l.length) (j : Nat), j < n → (l.flatMap f)[k * n + j]? = (f l[k])[j]?
  | [], k, hk, _, _ => by simp at hk
  | x :: l, 0, hk, j, hj => by
    rw [List.flatMap_cons, List.getElem?_append_left (by rw [hf]; omega)]
    simp
  | x :: l, k + 1, hk, j, hj => by
    rw [List.flatMap_cons, List.getElem?_append_right (by rw [hf, Nat.succ_mul]; omega), hf]
    rw [show (k + 1) * n + j - n = k * n + j by rw [Nat.succ_mul]; omega]
    rw [flat_get f n hf l k (by simpa using hk) j hj]
    simp

def AllR (L : List (Ky.K × Int)) (w : World) (e : Ending) (w' : World) : Prop :=
  ∃ v, e = .returned v ∧ OwnS w' 3 v L.length (L.flatMap ent) ∧ Only (fun _ => False) w w' ∧ ∀ g, v.ownBlock = some g → w.heap.size ≤ g

theorem aget_of_mem {L : List (Ky.K × Int)} (hn : (L.map (·.1)).Nodup) (i : Nat) (hi : i < L.length) : Ky.get L L[i].1 = some L[i].2 := by
  unfold Ky.get
  have : L.find? (fun p => decide (p.1 = L[i].1)) = some L[i] := by
    rw [List.find?_eq_some_iff_getElem]
    refine ⟨by simp, i, hi, rfl, fun j hj => ?_⟩
    have hne : (L.map (·.1))[j]'(by simp; omega) ≠ (L.map (·.1))[i]'(by simpa using hi) := by
      intro e
      exact (List.pairwise_iff_getElem.1 hn) j i (by simp; omega) (by simpa using hi) hj e
    simpa using hne
  rw [this]; rfl

set_option maxHeartbeats 800000 in
set_option maxRecDepth 100000 in
theorem all_any (w : World) (b most : Nat) (L : List (Ky.K × Int)) (bm : Nat) (sl : Value) (h : KR w b most L bm sl) :
    Calls Try.prog 13 #[.pointer (some ⟨b, 0, none⟩)] w (AllR L w) := by
  have hb := World.block_lt_of_cell? w _ h.c1
  simp only at hb
  obtain ⟨ad, cap, rfl, hcap, hcm⟩ := h.own.slAt.val
  have c2 := h.c2
  have hl128 : L.length ≤ 128 := Nat.le_trans h.le h.m2
  have H := Lib.hid h
  clear h hcm
  go_enter Try.func13, Try.ntmps13
  go_wp2
  go_loopw [3, 11] (fun v i wr => ∃ k : Nat, k ≤ L.length ∧ i = .int .i64 k ∧ Hid (OwnS wr 3 v k ((L.take k).flatMap ent)) ∧ Hid (Only (fun _ => False) w wr) ∧ Hid (∀ g, v.ownBlock = some g → w.heap.size ≤ g)) (fun _ i _ => L.length - (intOf i).toNat)
  case atStart => exact ⟨0, Nat.zero_le _, rfl, Lib.hid (OwnS.nil _ _), Lib.hid (Only.refl _ _), Lib.hid (by simp [Value.ownBlock])⟩
  case round =>
    obtain ⟨k, hk, rfl, hown, honly, hge⟩ := hrel
    by_cases hlt : k < L.length
    · obtain ⟨sb, so, cap', hsl, hcap2, _, hsb, hcs, _⟩ := H.out.own.form (by omega)
      cases hsl
      have hW := H.out.only honly.out (fun h => h) (fun h => h) (fun _ _ h => h)
      have c1 := hW.c1
      have hcs' := hcs.only honly.out hsb (fun h => h)
      have q0 := hcs' (k * 2 + 0) (.string L[k].1.1) (by rw [flat_get (fun p : Ky.K × Int => [Value.string p.1.1, .string p.1.2]) 2 (fun _ => rfl) L k hlt 0 (by omega)]; rfl)
      have q1 := hcs' (k * 2 + 1) (.string L[k].1.2) (by rw [flat_get (fun p : Ky.K × Int => [Value.string p.1.1, .string p.1.2]) 2 (fun _ => rfl) L k hlt 1 (by omega)]; rfl)
      simp only [Nat.add_zero] at q0
      rw [← Nat.add_assoc] at q1
      have hget := aget_of_mem hW.nodup k hlt
      have htk : (L.take (k + 1)).flatMap ent = (L.take k).flatMap ent ++ ent L[k] := by
        rw [List.take_succ_eq_append_getElem hlt, List.flatMap_append]; simp
      generalize hp : L[k] = p at q0 q1 hget htk
      obtain ⟨⟨x1, x2⟩, y⟩ := p
      simp only at q0 q1 hget
      have hbw : b < wr.heap.size := Nat.lt_of_lt_of_le hb honly.out.size
      have hb1 : bm < wr.heap.size := hW.map.lt
      have hL0 : (0 : Int) ≤ (k : Int) := by omega
      have hL1 : (k : Int) < (L.length : Int) := by omega
      have hz := hW.map
      have hlk : ∀ W, MapAt ek W bm (L.map fun p => (p.1, Value.int .i64 p.2)) → (Instr.lookup 52 (.map (some bm)) (.agg #[.string x1, .string x2]) false).run Try.prog W = .ok (.int .i64 y) W := by
        intro W hM
        have := run_lookup key_ok Try.underlying52 zero_int hM (x1, x2)
        rw [aget_map, hget] at this
        exact this
      have Hlk := Lib.hid hlk
      have Hz := Lib.hid hz
      have Htk := Lib.hid htk
      have HW := Lib.hid hW
      clear hW hcs hcs' hget hp hlk hz htk
      go_wp2
      obtain ⟨xb, hxb⟩ : ∃ xb, Hid (xb = wr.heap.size) := ⟨_, Lib.hid rfl⟩
      rw [← hxb.out]
      refine wp_abs (fun W => Only (fun _ => False) wr W ∧ W.heap.size = xb + 1 ∧ W.cell? ⟨xb, 0, none⟩ = some (.string x1) ∧ W.cell? ⟨xb, 1, none⟩ = some (.string x2)) ⟨(Only.refl _ wr).alloc _, by simp [hxb.out], ?_, ?_⟩ ?_
      · rw [hxb.out, World.cell?_alloc_at _ _ _ _ rfl]; rfl
      · rw [hxb.out, World.cell?_alloc_at _ _ _ _ rfl]; rfl
      rintro W ⟨hoW, hsW, d0, d1⟩
      have c1W := hoW.cellv c1 (fun h => h)
      have l0 := Hlk.out W (Hz.out.only hoW (fun h => h))
      have HzW := Lib.hid (Hz.out.only hoW (fun h => h))
      have HsW := Lib.hid hsW
      have HoW := Lib.hid hoW
      have hxW : xb < W.heap.size := by omega
      have hbW : b < W.heap.size := World.block_lt_of_cell? W _ c1W
      have hbmW : bm < W.heap.size := HzW.out.lt
      obtain ⟨i0, hi, hz0, hz1, hz2⟩ := info_parts info_entry
      have hA := Lib.hid (OwnS.drew (OwnS.alloc (hown.out.only hoW (fun _ _ h => h)) (.cells #[.string x1, .string x2, .int .i64 y] 36)))
      have hS := Lib.hid (Src.ofSlice (P := Try.prog) (size := 3) (W.alloc (.cells #[.string x1, .string x2, .int .i64 y] 36)).drew Try.underlying33 ⟨W.heap.size, 0, none⟩ 1 1 [.string x1, .string x2, .int .i64 y] rfl
        (World.news_of_block (cs := #[.string x1, .string x2, .int .i64 y]) (t := 36) (fr := (0, 0)) (heap_alloc_new W _)) (by simp [Value.oneCell']))
      have hn1 : k + 1 ≤ maxLen := by unfold maxLen; omega
      have hn2 : (k + 1) * 40 ≤ 140737488355328 := by omega
      have hz1c : ∀ u ∈ (Value.agg #[.string ⟨#[]⟩, .string ⟨#[]⟩, .int .i64 0]).cells.toList, u.oneCell' = true := by simp [Value.cells, Value.oneCell']
      have nb := Lib.hid (show ¬ u3.ownBlock = some b from fun e => by have := hge.out _ e; omega)
      have nm := Lib.hid (show ¬ u3.ownBlock = some bm from fun e => by have := hge.out _ e; have := H.out.map.lt; omega)
      have nx := Lib.hid (show ¬ u3.ownBlock = some xb from fun e => by have := hown.out.lt _ e; have := hxb.out; omega)
      clear c1 q0 q1 hoW hsW
      go_region_held3 (fun w' => w'.cell? ⟨b, 1, none⟩ = some (.map (some bm)) ∧ w'.cell? ⟨xb, 0, none⟩ = some (.string x1) ∧ w'.cell? ⟨xb, 1, none⟩ = some (.string x2) ∧
          (Instr.lookup 52 (.map (some bm)) (.agg #[.string x1, .string x2]) false).run Try.prog w' = .ok (.int .i64 y) w')
        (first
          | exact ⟨c1W, d0, d1, Hlk.out _ HzW.out⟩
          | (exact ⟨by show (W.alloc _).cell? _ = _; rw [World.cell?_alloc_past _ _ _ hbW]; exact c1W, by show (W.alloc _).cell? _ = _; rw [World.cell?_alloc_past _ _ _ hxW]; exact d0, by show (W.alloc _).cell? _ = _; rw [World.cell?_alloc_past _ _ _ hxW]; exact d1, Hlk.out _ (MapAt.drew (HzW.out.alloc _))⟩)
          | (exact ⟨h42.cellv (by show (W.alloc _).cell? _ = _; rw [World.cell?_alloc_past _ _ _ hbW]; exact c1W) nb.out, h42.cellv (by show (W.alloc _).cell? _ = _; rw [World.cell?_alloc_past _ _ _ hxW]; exact d0) nx.out, h42.cellv (by show (W.alloc _).cell? _ = _; rw [World.cell?_alloc_past _ _ _ hxW]; exact d1) nx.out, Hlk.out _ ((MapAt.drew (HzW.out.alloc _)).only h42 nm.out)⟩))
        ((refine step_append rfl (.tmp 15) (.tmp 24) 33 33 (by rfl) 36 i0 _ 3 40 Try.underlying33 hi hz0 hz1 hz2 rfl hz1c u3 k _ (by rfl) hA.out (.slice (some ⟨W.heap.size, 0, none⟩) 1 1) 1 [.string x1, .string x2, .int .i64 y] (by rfl) hS.out hn1 hn2 ?_; intro v' w4 h41 h42 h43))
      go_wp2
      go_roundw
      case rel =>
        have X : Only (fun x => u3.ownBlock = some x) wr w4 := Only.trans (HoW.out.mono (fun _ _ h => h.elim)) (Only.trans (((Only.refl (fun x => u3.ownBlock = some x) W).alloc _).drew) h42 (fun _ _ h => h)) (fun _ _ h => h)
        refine ⟨k + 1, by omega, by go_num, Lib.hid (by rw [Htk.out]; exact h41), Lib.hid (Only.trans honly.out X (fun x hx h => by have := hge.out x h; omega)), Lib.hid (fun g hg => ?_)⟩
        rcases h43 with h | h
        · exact hge.out g (by rw [← h]; exact hg)
        · rw [hg] at h
          have e : g = (W.alloc (.cells #[.string x1, .string x2, .int .i64 y] 36)).drew.heap.size := by simpa using h
          have := honly.out.size
          have := HoW.out.size
          simp at e
          omega
      case measure => simp [intOf]; omega
    · obtain rfl : k = L.length := by omega
      go_wp2
      go_ret
      refine ⟨_, rfl, ?_, honly.out, hge.out⟩
      have := hown.out
      rw [List.take_length] at this
      exact this
end Go.Proofs.Ytgcmklheifjciaa.KyW
