/- The walk of the reference's Put. -/
import Derived.Test.YtgcmklheifjciaaKeysRef
import Derived.Test.YtgcmklheifjciaaHpb
set_option linter.unusedVariables false
set_option linter.unusedSimpArgs false
namespace Go.Proofs.Ytgcmklheifjciaa.KyW
open Go.RowKit Hp

def RPut (w : World) (b most : Nat) (L : List (Ky.K × Int)) (sl : Value) (k : Ky.K) (id : Int) (e : Ending) (w' : World) : Prop :=
  e = .returned (.tuple #[.int .i64 (Ky.put most L k id).1, .bool (Ky.put most L k id).2.1]) ∧ ∃ sl', RR w' b most (Ky.put most L k id).2.2 sl' ∧ Only (· = b) w w' ∧
    (sl' = sl ∨ ∀ g, sl'.ownBlock = some g → w.heap.size ≤ g ∧ g < w'.heap.size)

theorem ent_one (L : List (Ky.K × Int)) : ∀ u ∈ L.flatMap ent, u.oneCell' = true := by
  intro u hu
  obtain ⟨p, _, hp⟩ := List.mem_flatMap.1 hu
  simp [ent] at hp
  rcases hp with rfl | rfl | rfl <;> rfl

theorem rput_had (w : World) (b most : Nat) (L : List (Ky.K × Int)) (sl : Value) (h : RR w b most L sl) (k1 k2 : ByteArray) (id had : Int) (hg : Ky.get L (k1, k2) = some had) :
    Calls Try.prog 15 #[.pointer (some ⟨b, 0, none⟩), .string k1, .string k2, .int .i64 id] w (RPut w b most L sl (k1, k2) id) := by
  have C := rget_any w b most L sl h k1 k2
  rw [hg] at C
  have H := Lib.hid h
  have Hg := Lib.hid hg
  have HC := Lib.hid C
  clear h hg C
  go_enter Try.func15, Try.ntmps15
  go_wp2_with fail
  refine (HC.out).mono ?_
  rintro e w' ⟨rfl, ho⟩
  go_wp2
  go_ret2
  have e : Ky.put most L (k1, k2) id = (had, false, L) := by unfold Ky.put; rw [Hg.out]
  refine ⟨by simp only [e]; rfl, sl, ?_, ho.mono (fun _ _ h => h.elim), .inl rfl⟩
  rw [e]
  exact H.out.only ho (fun h => h) (fun _ _ h => h)

/-- the closing: what stands behind the second append and the store -/
theorem rput_end {w w1 w4 : World} {b most : Nat} {L0 L : List (Ky.K × Int)} {sl v4 : Value} {k : Ky.K} {id : Int} (hb : b < w1.heap.size) (hput : Ky.put most L0 k id = (id, true, L ++ [(k, id)])) (hle : L.length < most) (H1 : RR w1 b most L0 sl) (Ho : Only (fun _ => False) w w1)
    (k42 : Only (fun _ => False) w1 w4) (hc4 : w4.cell? ⟨b, 0, none⟩ = some (.int .i64 most)) (c14 : w4.cell? ⟨b, 1, none⟩ = some sl) (f14 : w4.frozen? ⟨b, 1, none⟩ = false)
    (h41 : OwnS w4 3 v4 (L.length + 1) (L.flatMap ent ++ [.string k.1, .string k.2, .int .i64 id])) (hv4 : ∀ x, v4.ownBlock = some x → w1.heap.size ≤ x) :
    RPut w b most L0 sl k id (.returned (.tuple #[.int .i64 id, .bool true])) (w4.setCell ⟨b, 1, none⟩ v4) := by
  refine ⟨by rw [hput], v4, ?_, ?_, .inr fun g hg => ?_⟩
  · rw [hput]
    refine ⟨by rw [cell_other (by simp)]; exact hc4, cell_same c14, by rw [World.frozen?_setCell]; exact f14, ?_, by simp; omega, H1.m1, H1.m2⟩
    rw [List.length_append, List.flatMap_append]
    refine h41.slAt.only ((Only.refl (· = b) w4).setCell _ (.inr rfl) _) (fun g hg e => ?_)
    subst e
    have := hv4 _ hg
    omega
  · refine Only.setCell (S := fun x => x = b) ?_ _ (.inr rfl) _
    exact Only.trans (Ho.mono (fun _ _ h => h.elim)) k42 (fun _ _ h => h.elim)
  · have := hv4 g hg
    have := Ho.size
    have := h41.lt g hg
    refine ⟨by omega, ?_⟩
    simpa using this

set_option maxHeartbeats 800000 in
set_option maxRecDepth 100000 in
theorem rput_new (w : World) (b most : Nat) (L : List (Ky.K × Int)) (sl : Value) (h : RR w b most L sl) (k1 k2 : ByteArray) (id : Int) (hg : Ky.get L (k1, k2) = none) (hlt : L.length < most) :
    Calls Try.prog 15 #[.pointer (some ⟨b, 0, none⟩), .string k1, .string k2, .int .i64 id] w (RPut w b most L sl (k1, k2) id) := by
  have C := rget_any w b most L sl h k1 k2
  rw [hg] at C
  obtain ⟨ad, cap, rfl, hcap, hcm⟩ := h.rd.val
  have hne : ((L.length : Int) == (most : Int)) = false := by simp; omega
  have H := Lib.hid h
  have Hg := Lib.hid hg
  have HC := Lib.hid C
  have hl128 : L.length ≤ 128 := Nat.le_trans h.le h.m2
  have hlt' := Lib.hid hlt
  obtain ⟨i0, hi, hz0, hz1, hz2⟩ := info_parts info_rentry
  have hz1c : ∀ u ∈ (Value.agg #[.string ⟨#[]⟩, .string ⟨#[]⟩, .int .i64 0]).cells.toList, u.oneCell' = true := by simp [Value.cells, Value.oneCell']
  have hn1 : 0 + L.length ≤ maxLen := by unfold maxLen; omega
  have hn2 : (0 + L.length) * 40 ≤ 140737488355328 := by omega
  have hn3 : L.length + 1 ≤ maxLen := by unfold maxLen; omega
  have hn4 : (L.length + 1) * 40 ≤ 140737488355328 := by omega
  clear h hg C hcm hlt
  go_enter Try.func15, Try.ntmps15
  go_wp2_with fail
  refine (HC.out).mono ?_
  rintro e w1 ⟨rfl, ho⟩
  have h1 := H.out.only ho (fun h => h) (fun _ _ h => h)
  have hb1 : b < w1.heap.size := World.block_lt_of_cell? w1 _ h1.c1
  have c1 := h1.c1
  have c0 := h1.c0
  have f1 := h1.f1
  have hE := Lib.hid (OwnS.empty (w1.alloc (.cells #[] 50)) 3 w1.heap.size (by simp))
  have hS := Lib.hid ((h1.rd.alloc (.cells #[] 50)).src (P := Try.prog) Try.underlying46 (ent_one L))
  have H1 := Lib.hid h1
  have Ho := Lib.hid ho
  clear h1 ho
  skip
  go_wp2_with (first | (at_builtin; refine wpList_append rfl (.tmp 22) (.tmp 26) 46 46 rfl 50 i0 _ 3 40 Try.underlying46 hi hz0 hz1 hz2 rfl hz1c (.slice (some ⟨w1.heap.size, 0, none⟩) 0 0) 0 [] rfl hE.out (.slice ad L.length cap) L.length _ rfl hS.out hn1 hn2 ?_; intro v2 w2 h21 h22 h23; simp only [Nat.zero_add, List.nil_append] at h21; obtain ⟨ad2, cap2, rfl, hcap2, hcm2⟩ := h21.slAt.val; have k22 : Only (fun _ => False) w1 w2 := Only.trans ((Only.refl (fun _ => False) w1).alloc _) h22 (fun x hx hh => by simp only [Value.ownBlock, Option.some.injEq] at hh; omega); have c02 := k22.cellv c0 (fun h => h); have c12 := k22.cellv c1 (fun h => h); have f12 := (k22.frozen (p := ⟨b, 1, none⟩) hb1 (fun h => h)).trans f1; have hb2 : b < w2.heap.size := Nat.lt_of_lt_of_le hb1 k22.size; have K22 := Lib.hid k22; have hv2 := Lib.hid (own_new (B := w1.heap.size) h23 (fun x hx => by simp only [Value.ownBlock, Option.some.injEq] at hx; omega) (by simp)); have c1' := Lib.hid c1; have f1' := Lib.hid f1; have c0' := Lib.hid c0; have hA2 := Lib.hid (OwnS.alloc h21 (.cells #[.string k1, .string k2, .int .i64 id] 50)); have hS2 := Lib.hid (Src.ofSlice (P := Try.prog) (size := 3) (w2.alloc (.cells #[.string k1, .string k2, .int .i64 id] 50)) Try.underlying46 ⟨w2.heap.size, 0, none⟩ 1 1 [.string k1, .string k2, .int .i64 id] rfl (World.news_of_block (cs := #[.string k1, .string k2, .int .i64 id]) (t := 50) (fr := (0, 0)) (heap_alloc_new w2 _)) (by simp [Value.oneCell'])); clear h21 h22 h23 k22 hcm2 c0 c1 f1) | (at_builtin; refine wpList_append rfl (.tmp 38) (.tmp 43) 46 46 rfl 50 i0 _ 3 40 Try.underlying46 hi hz0 hz1 hz2 rfl hz1c (.slice ad2 L.length cap2) L.length _ rfl hA2.out (.slice (some ⟨w2.heap.size, 0, none⟩) 1 1) 1 [.string k1, .string k2, .int .i64 id] rfl hS2.out hn3 hn4 ?_; intro v4 w4 h41 h42 h43; obtain ⟨g4, o4, cap4, rfl, hcap4, hcm4, hg4, _, _⟩ := h41.form (by omega); have hv4 := Lib.hid (own_new (B := w1.heap.size) h43 hv2.out (by have := K22.out.size; simp; omega)); have k42 : Only (fun _ => False) w1 w4 := Only.trans (K22.out.alloc _) h42 (fun x hx h => by have := hv2.out x h; omega); have c14 := k42.cellv c1'.out (fun h => h); have f14 := (k42.frozen (p := ⟨b, 1, none⟩) hb1 (fun h => h)).trans f1'.out; have K42 := Lib.hid k42; have H41 := Lib.hid h41; have hc4 := Lib.hid (k42.cellv c0'.out (fun h => h)); clear h41 h42 h43 k42 hcm4 c12 f12))
  all_goals
    go_ret2
    exact rput_end hb1 (by unfold Ky.put; rw [Hg.out]; simp only; rw [if_neg (by have := hlt'.out; omega)]) hlt'.out H1.out Ho.out K42.out hc4.out c14 f14 H41.out hv4.out
set_option maxHeartbeats 800000 in
set_option maxRecDepth 100000 in
theorem rput_full (w : World) (b most : Nat) (p : Ky.K × Int) (L : List (Ky.K × Int)) (sl : Value) (h : RR w b most (p :: L) sl) (k1 k2 : ByteArray) (id : Int) (hg : Ky.get (p :: L) (k1, k2) = none) (hlt : L.length + 1 = most) :
    Calls Try.prog 15 #[.pointer (some ⟨b, 0, none⟩), .string k1, .string k2, .int .i64 id] w (RPut w b most (p :: L) sl (k1, k2) id) := by
  have C := rget_any w b most (p :: L) sl h k1 k2
  rw [hg] at C
  obtain ⟨ad, cap, rfl, hcap, hcm⟩ := h.rd.val
  have hne : (((L.length + 1) : Int) == (most : Int)) = true := by simp; omega
  have H := Lib.hid h
  have Hg := Lib.hid hg
  have HC := Lib.hid C
  have hl128 : (L.length + 1) ≤ 128 := Nat.le_trans h.le h.m2
  have hlt' := Lib.hid hlt
  obtain ⟨i0, hi, hz0, hz1, hz2⟩ := info_parts info_rentry
  have hz1c : ∀ u ∈ (Value.agg #[.string ⟨#[]⟩, .string ⟨#[]⟩, .int .i64 0]).cells.toList, u.oneCell' = true := by simp [Value.cells, Value.oneCell']
  have hn1 : 0 + (L.length + 1) ≤ maxLen := by unfold maxLen; omega
  have hn2 : (0 + (L.length + 1)) * 40 ≤ 140737488355328 := by omega
  have hn3 : L.length + 1 ≤ maxLen := by unfold maxLen; omega
  have hn4 : (L.length + 1) * 40 ≤ 140737488355328 := by omega
  clear h hg C hcm hlt
  go_enter Try.func15, Try.ntmps15
  go_wp2_with fail
  refine (HC.out).mono ?_
  rintro e w1 ⟨rfl, ho⟩
  have h1 := H.out.only ho (fun h => h) (fun _ _ h => h)
  have hb1 : b < w1.heap.size := World.block_lt_of_cell? w1 _ h1.c1
  have c1 := h1.c1
  have c0 := h1.c0
  have f1 := h1.f1
  have hE := Lib.hid (OwnS.empty (w1.alloc (.cells #[] 50)) 3 w1.heap.size (by simp))
  have hS := Lib.hid ((h1.rd.alloc (.cells #[] 50)).src (P := Try.prog) Try.underlying46 (ent_one (p :: L)))
  have H1 := Lib.hid h1
  have Ho := Lib.hid ho
  clear h1 ho
  simp only [List.length_cons] at c1 hS
  go_wp2_with (first | (at_builtin; refine wpList_append rfl (.tmp 22) (.tmp 26) 46 46 rfl 50 i0 _ 3 40 Try.underlying46 hi hz0 hz1 hz2 rfl hz1c (.slice (some ⟨w1.heap.size, 0, none⟩) 0 0) 0 [] rfl hE.out (.slice ad (L.length + 1) cap) (L.length + 1) _ rfl hS.out hn1 hn2 ?_; intro v2 w2 h21 h22 h23; simp only [Nat.zero_add, List.nil_append] at h21; obtain ⟨g2, o2, cap2, rfl, hcap2, hcm2, hg2, _, _⟩ := h21.form (by omega); have k22 : Only (fun _ => False) w1 w2 := Only.trans ((Only.refl (fun _ => False) w1).alloc _) h22 (fun x hx hh => by simp only [Value.ownBlock, Option.some.injEq] at hh; omega); have c02 := k22.cellv c0 (fun h => h); have c12 := k22.cellv c1 (fun h => h); have f12 := (k22.frozen (p := ⟨b, 1, none⟩) hb1 (fun h => h)).trans f1; have hb2 : b < w2.heap.size := Nat.lt_of_lt_of_le hb1 k22.size; have K22 := Lib.hid k22; have hv2 := Lib.hid (own_new (B := w1.heap.size) h23 (fun x hx => by simp only [Value.ownBlock, Option.some.injEq] at hx; omega) (by simp)); have c1' := Lib.hid c1; have f1' := Lib.hid f1; have c0' := Lib.hid c0; have hA2 := Lib.hid (OwnS.alloc h21.tail (.cells #[.string k1, .string k2, .int .i64 id] 50)); have hS2 := Lib.hid (Src.ofSlice (P := Try.prog) (size := 3) (w2.alloc (.cells #[.string k1, .string k2, .int .i64 id] 50)) Try.underlying46 ⟨w2.heap.size, 0, none⟩ 1 1 [.string k1, .string k2, .int .i64 id] rfl (World.news_of_block (cs := #[.string k1, .string k2, .int .i64 id]) (t := 50) (fr := (0, 0)) (heap_alloc_new w2 _)) (by simp [Value.oneCell'])); clear h21 h22 h23 k22 hcm2 c0 c1 f1; by_cases hc1 : cap2 = 1; rotate_left; (simp only [hc1, if_false] at hA2); rotate_left; (subst hc1; clear hcap2; simp only [if_true, Nat.sub_self] at hA2)) | (at_builtin; refine wpList_append rfl (.tmp 38) (.tmp 43) 46 46 rfl 50 i0 _ 3 40 Try.underlying46 hi hz0 hz1 hz2 rfl hz1c (.slice (some ⟨g2, o2, none⟩) L.length 0) L.length _ rfl hA2.out (.slice (some ⟨w2.heap.size, 0, none⟩) 1 1) 1 [.string k1, .string k2, .int .i64 id] rfl hS2.out hn3 hn4 ?_; intro v4 w4 h41 h42 h43; obtain ⟨g4, o4, cap4, rfl, hcap4, hcm4, hg4, _, _⟩ := h41.form (by omega); have hv4 := Lib.hid (own_new (B := w1.heap.size) h43 hv2.out (by have := K22.out.size; simp; omega)); have k42 : Only (fun _ => False) w1 w4 := Only.trans (K22.out.alloc _) h42 (fun x hx h => by have := hv2.out x h; omega); have c14 := k42.cellv c1'.out (fun h => h); have f14 := (k42.frozen (p := ⟨b, 1, none⟩) hb1 (fun h => h)).trans f1'.out; have K42 := Lib.hid k42; have H41 := Lib.hid h41; have hc4 := Lib.hid (k42.cellv c0'.out (fun h => h)); clear h41 h42 h43 k42 hcm4 c12 f12) | (at_builtin; refine wpList_append rfl (.tmp 38) (.tmp 43) 46 46 rfl 50 i0 _ 3 40 Try.underlying46 hi hz0 hz1 hz2 rfl hz1c (.slice (some ⟨g2, o2 + 3, none⟩) L.length (cap2 - 1)) L.length _ rfl hA2.out (.slice (some ⟨w2.heap.size, 0, none⟩) 1 1) 1 [.string k1, .string k2, .int .i64 id] rfl hS2.out hn3 hn4 ?_; intro v4 w4 h41 h42 h43; obtain ⟨g4, o4, cap4, rfl, hcap4, hcm4, hg4, _, _⟩ := h41.form (by omega); have hv4 := Lib.hid (own_new (B := w1.heap.size) h43 hv2.out (by have := K22.out.size; simp; omega)); have k42 : Only (fun _ => False) w1 w4 := Only.trans (K22.out.alloc _) h42 (fun x hx h => by have := hv2.out x h; omega); have c14 := k42.cellv c1'.out (fun h => h); have f14 := (k42.frozen (p := ⟨b, 1, none⟩) hb1 (fun h => h)).trans f1'.out; have K42 := Lib.hid k42; have H41 := Lib.hid h41; have hc4 := Lib.hid (k42.cellv c0'.out (fun h => h)); clear h41 h42 h43 k42 hcm4 c12 f12))
  all_goals
    go_ret2
    exact rput_end hb1 (by unfold Ky.put; rw [Hg.out]; simp only; rw [if_pos (by simp; exact hlt'.out)]; rfl) (by have := hlt'.out; omega) H1.out Ho.out K42.out hc4.out c14 f14 H41.out hv4.out

theorem rput_any (w : World) (b most : Nat) (L : List (Ky.K × Int)) (sl : Value) (h : RR w b most L sl) (k1 k2 : ByteArray) (id : Int) :
    Calls Try.prog 15 #[.pointer (some ⟨b, 0, none⟩), .string k1, .string k2, .int .i64 id] w (RPut w b most L sl (k1, k2) id) := by
  cases hg : Ky.get L (k1, k2) with
  | some had => exact rput_had w b most L sl h k1 k2 id had hg
  | none =>
    by_cases hlt : L.length < most
    · exact rput_new w b most L sl h k1 k2 id hg hlt
    · have := h.le
      have := h.m1
      cases L with
      | nil => simp at hlt; omega
      | cons p L => exact rput_full w b most p L sl h k1 k2 id hg (by simp at hlt this; omega)
end Go.Proofs.Ytgcmklheifjciaa.KyW
