/- The walks of package keys: New, Put, Get, Len, All, over lists. -/
import Derived.Test.YtgcmklheifjciaaRows
import Derived.Test.YtgcmklheifjciaaHp
import Derived.Test.YtgcmklheifjciaaKeysPlain
import Derived.Deep.QuietTactic
import Derived.BigQuiet
import Derived.StillTailTactics
import Derived.Deep.RegionHeld3
import Derived.Deep.RegionLaw
import Derived.Deep.AppendLies
import Derived.Outline
import Derived.KernelRfl
set_option linter.unusedVariables false
set_option linter.unusedSimpArgs false
namespace Go.Proofs.Ytgcmklheifjciaa.KyW
open Go.RowKit Hp

def ek (k : Ky.K) : Value := .agg #[.string k.1, .string k.2]

theorem eq_key (a b : Ky.K) (w : World) : (Op.equal 23 (ek a) (ek b)).run Try.prog w = .ok (decide (a = b)) w := by
  obtain ⟨a1, a2⟩ := a
  obtain ⟨b1, b2⟩ := b
  have u3 := Try.underlying9
  have hS : Try.prog.underlying 23 = some (.struct (Try.prog.fieldsOf 23)) := by kernel_rfl
  have hp : Try.prog.stoodInHeld 23 = false := by kernel_rfl
  simp only [ek, Op.equal, Op.maxDepth]
  rw [show (10000 : Nat) = 9999 + 1 from rfl, run_equalIn_agg w 9999 23 _ _ hS hp]
  simp only [Program.fieldsOf, Try.underlying23]
  go_simp
  simp only [str_tl_iff]
  by_cases e1 : a1 = b1 <;> by_cases e2 : a2 = b2 <;> simp [e1, e2]
theorem key_ok : KeyOK Try.prog 23 ek := by
  refine KeyOK.asked Try.underlying23 (fun em k w => by kernel_rfl) (fun a b => rfl) eq_key (fun k => ?_)
  show Instr.sameBits (9998 + 1 + 1) (ek k) (ek k) = true
  simp [ek, Instr.sameBits, str_beq]
theorem zero_int (w : World) : (zeroValue 3).run Try.prog w = .ok (.int .i64 0) w := by kernel_rfl

/-- what the struct behind a *Keys holds -/
structure KR (w : World) (b most : Nat) (L : List (Ky.K × Int)) (bm : Nat) (sl : Value) : Prop where
  c0 : w.cell? ⟨b, 0, none⟩ = some (.int .i64 most)
  c1 : w.cell? ⟨b, 1, none⟩ = some (.map (some bm))
  c2 : w.cell? ⟨b, 2, none⟩ = some sl
  f2 : w.frozen? ⟨b, 2, none⟩ = false
  map : MapAt ek w bm (L.map fun p => (p.1, .int .i64 p.2))
  own : OwnS w 2 sl L.length (L.flatMap fun p => [.string p.1.1, .string p.1.2])
  ne1 : sl.ownBlock ≠ some b
  ne2 : sl.ownBlock ≠ some bm
  le : L.length ≤ most
  m1 : 1 ≤ most
  m2 : most ≤ 128

theorem KR.ne_map {w : World} {b most : Nat} {L : List (Ky.K × Int)} {bm : Nat} {sl : Value} (h : KR w b most L bm sl) : b ≠ bm := by
  intro e
  subst e
  obtain ⟨es, clock, hb, _⟩ := h.map
  have := h.c0
  simp [World.cell?, hb] at this
theorem KR.own_ne {w : World} {b most : Nat} {L : List (Ky.K × Int)} {bm : Nat} {sl : Value} (h : KR w b most L bm sl) {g : Nat} (hg : sl.ownBlock = some g) : g ≠ bm := by
  intro e
  subst e
  exact h.ne2 hg
theorem info_key : (Try.prog.info? 23).map (fun i => (i.zero, i.size, i.bytes)) = some (some (.agg #[.string ⟨#[]⟩, .string ⟨#[]⟩]), 2, 32) := by kernel_rfl

theorem aget_map (L : List (Ky.K × Int)) (k : Ky.K) : aget (L.map fun p => (p.1, Value.int .i64 p.2)) k = (Ky.get L k).map (Value.int .i64) := by
  unfold aget Ky.get
  rw [List.find?_map]
  cases hx : L.find? (fun p => decide (p.1 = k)) with
  | none => simp [Function.comp_def, hx]
  | some q => simp [Function.comp_def, hx]

def Is2 (x : Int) (ok : Bool) (w : World) (e : Ending) (w' : World) : Prop := e = .returned (.tuple #[.int .i64 x, .bool ok]) ∧ Only (fun _ => False) w w'

theorem get_any (w : World) (b most : Nat) (L : List (Ky.K × Int)) (bm : Nat) (sl : Value) (h : KR w b most L bm sl) (k1 k2 : ByteArray) :
    Calls Try.prog 10 #[.pointer (some ⟨b, 0, none⟩), .agg #[.string k1, .string k2]] w (Is2 ((Ky.get L (k1, k2)).getD 0) (Ky.get L (k1, k2)).isSome w) := by
  have hl : ∀ n, (Instr.lookup 52 (.map (some bm)) (.agg #[.string k1, .string k2]) true).run Try.prog ((w.alloc (.cells #[.string k1, .string k2] 23)).drewN n) =
      .ok (.tuple #[.int .i64 ((Ky.get L (k1, k2)).getD 0), .bool (Ky.get L (k1, k2)).isSome]) ((w.alloc (.cells #[.string k1, .string k2] 23)).drewN n) := by
    intro n
    have := run_lookup_ok key_ok Try.underlying52 zero_int ((h.map.alloc (.cells #[.string k1, .string k2] 23)).drewN n) (k1, k2)
    rw [aget_map] at this
    rw [show (ek (k1, k2)) = .agg #[.string k1, .string k2] from rfl] at this
    rw [this]
    cases Ky.get L (k1, k2) <;> rfl
  obtain ⟨x, hx⟩ : ∃ x, Hid (x = (Ky.get L (k1, k2)).getD 0) := ⟨_, Lib.hid rfl⟩
  obtain ⟨ok, hok⟩ : ∃ x, Hid (x = (Ky.get L (k1, k2)).isSome) := ⟨_, Lib.hid rfl⟩
  rw [← hx.out, ← hok.out] at hl ⊢
  have hb := World.block_lt_of_cell? w _ h.c1
  simp only at hb
  have c1 := h.c1
  clear h
  go_enter Try.func10, Try.ntmps10
  go_wp2
  go_quiet (fail)
  go_wp2
  go_ret2
  exact ⟨rfl, ((Only.refl _ w).alloc _).drewN _⟩

def IsI (x : Int) (w : World) (e : Ending) (w' : World) : Prop := e = .returned (.int .i64 x) ∧ Only (fun _ => False) w w'
theorem len_any (w : World) (b most : Nat) (L : List (Ky.K × Int)) (bm : Nat) (sl : Value) (h : KR w b most L bm sl) :
    Calls Try.prog 11 #[.pointer (some ⟨b, 0, none⟩)] w (IsI L.length w) := by
  obtain ⟨ad, cap, hsl, hcap, hcm⟩ := h.own.slAt.val
  have c2 := h.c2
  rw [hsl] at c2
  clear h hsl
  go_enter Try.func11, Try.ntmps11
  go_wp2
  go_ret
  exact ⟨rfl, Only.refl _ w⟩

theorem new_any (w : World) (n : Int) :
    Calls Try.prog 8 #[.int .i64 n] w fun e w' => e = .returned (.pointer (some ⟨w.heap.size + 1, 0, none⟩)) ∧ KR w' (w.heap.size + 1) (min (max n 1) 128).toNat [] w.heap.size (.slice none 0 0) ∧ Only (fun _ => False) w w' := by
  have hmm := @run_makeMap Try.prog
  have hfin : ∀ x : Int, x = min (max n 1) 128 → KR (((w.alloc (.map #[] 0)).alloc (.cells #[.int .i64 x, .map (some w.heap.size), .slice none 0 0] 55))) (w.heap.size + 1) (min (max n 1) 128).toNat [] w.heap.size (.slice none 0 0) := by
    intro x hx
    refine ⟨?_, ?_, ?_, ?_, ?_, OwnS.nil _ _, by simp [Value.ownBlock], by simp [Value.ownBlock], by simp, by omega, by omega⟩
    · rw [World.cell?_alloc_at _ _ _ _ (by simp)]; simp; omega
    · rw [World.cell?_alloc_at _ _ _ _ (by simp)]; simp
    · rw [World.cell?_alloc_at _ _ _ _ (by simp)]; simp
    · rw [World.frozen?_alloc_at _ _ _ _ (by simp)]
    · exact (MapAt.made ek w).alloc _
  have hfin' := Lib.hid hfin
  clear hfin
  go_enter Try.func8, Try.ntmps8
  go_wp2
  all_goals
    go_ret
    exact ⟨rfl, hfin'.out _ (by omega), ((Only.refl _ w).alloc _).alloc _⟩

theorem KR.only {S : Nat → Prop} {w w' : World} {b most : Nat} {L : List (Ky.K × Int)} {bm : Nat} {sl : Value} (h : KR w b most L bm sl) (ho : Only S w w') (h1 : ¬ S b) (h2 : ¬ S bm) (h3 : ∀ g, sl.ownBlock = some g → ¬ S g) : KR w' b most L bm sl :=
  ⟨ho.cellv h.c0 h1, ho.cellv h.c1 h1, ho.cellv h.c2 h1, (ho.frozen (p := ⟨b, 2, none⟩) (World.block_lt_of_cell? w _ h.c2) h1).trans h.f2, h.map.only ho h2, h.own.only ho h3, h.ne1, h.ne2, h.le, h.m1, h.m2⟩

def Put2 (w : World) (b most : Nat) (L : List (Ky.K × Int)) (bm : Nat) (sl : Value) (k : Ky.K) (id : Int) (e : Ending) (w' : World) : Prop :=
  e = .returned (.tuple #[.int .i64 (Ky.put most L k id).1, .bool (Ky.put most L k id).2.1]) ∧ ∃ sl', KR w' b most (Ky.put most L k id).2.2 bm sl' ∧ Only (fun x => x = b ∨ x = bm ∨ sl.ownBlock = some x) w w' ∧
    (sl'.ownBlock = sl.ownBlock ∨ ∀ g, sl'.ownBlock = some g → w.heap.size ≤ g)

theorem put_had (w : World) (b most : Nat) (L : List (Ky.K × Int)) (bm : Nat) (sl : Value) (h : KR w b most L bm sl) (k1 k2 : ByteArray) (id had : Int) (hg : Ky.get L (k1, k2) = some had) :
    Calls Try.prog 9 #[.pointer (some ⟨b, 0, none⟩), .agg #[.string k1, .string k2], .int .i64 id] w (Put2 w b most L bm sl (k1, k2) id) := by
  have hl : ∀ n, (Instr.lookup 52 (.map (some bm)) (.agg #[.string k1, .string k2]) true).run Try.prog ((w.alloc (.cells #[.string k1, .string k2] 23)).drewN n) =
      .ok (.tuple #[.int .i64 had, .bool true]) ((w.alloc (.cells #[.string k1, .string k2] 23)).drewN n) := by
    intro n
    have := run_lookup_ok key_ok Try.underlying52 zero_int ((h.map.alloc (.cells #[.string k1, .string k2] 23)).drewN n) (k1, k2)
    rw [aget_map, hg] at this
    exact this
  have hb := World.block_lt_of_cell? w _ h.c1
  simp only at hb
  have c1 := h.c1
  have H := Lib.hid h
  have Hg := Lib.hid hg
  clear h hg
  go_enter Try.func9, Try.ntmps9
  go_wp2
  go_quiet (fail)
  go_wp2
  go_ret2
  have e : Ky.put most L (k1, k2) id = (had, false, L) := by unfold Ky.put; rw [Hg.out]
  refine ⟨by simp only [e]; rfl, sl, ?_, ((Only.refl _ w).alloc _).drewN _, .inl rfl⟩
  rw [e]
  exact H.out.only (S := fun _ => False) (((Only.refl _ w).alloc _).drewN _) (fun h => h) (fun h => h) (fun _ _ h => h)

/-- the second half of Put: the key is not there, and there is room -/
theorem push_end {W w3 w3' w4 : World} {b most : Nat} {L : List (Ky.K × Int)} {bm : Nat} {sl : Value} {k : Ky.K} {id : Int} (hle : L.length < most) (hg : Ky.get L k = none) (hW : KR W b most L bm sl)
    (hm3 : MapAt ek w3 bm (aset (L.map fun p => (p.1, Value.int .i64 p.2)) k (.int .i64 id))) (ho3 : Only (· = bm) W w3) (ho3' : Only (fun _ => False) w3 w3')
    {g o4 c4 : Nat} (h41 : OwnS w4 2 (.slice (some ⟨g, o4, none⟩) (L.length + 1) c4) (L.length + 1) (L.flatMap (fun p => [Value.string p.1.1, .string p.1.2]) ++ [.string k.1, .string k.2]))
    (h42 : Only (fun x => sl.ownBlock = some x) w3' w4) (h43 : (Value.slice (some ⟨g, o4, none⟩) (L.length + 1) c4).ownBlock = sl.ownBlock ∨ (Value.slice (some ⟨g, o4, none⟩) (L.length + 1) c4).ownBlock = some w3'.heap.size) :
    KR (w4.setCell ⟨b, 2, none⟩ (.slice (some ⟨g, o4, none⟩) (L.length + 1) c4)) b most (L ++ [(k, id)]) bm (.slice (some ⟨g, o4, none⟩) (L.length + 1) c4) ∧
      Only (fun x => x = b ∨ x = bm ∨ sl.ownBlock = some x) W (w4.setCell ⟨b, 2, none⟩ (.slice (some ⟨g, o4, none⟩) (L.length + 1) c4)) ∧
      ((Value.slice (some ⟨g, o4, none⟩) (L.length + 1) c4).ownBlock = sl.ownBlock ∨ W.heap.size ≤ g) := by
  have hb : b < W.heap.size := World.block_lt_of_cell? W _ hW.c0
  have hbm : bm < W.heap.size := hW.map.lt
  have hne := hW.ne_map
  have hs3 := ho3.size
  have hs3' := ho3'.size
  have hs4 := h42.size
  have c0 := h42.cellv (ho3'.cellv (ho3.cellv hW.c0 hne) (fun h => h)) hW.ne1
  have c1 := h42.cellv (ho3'.cellv (ho3.cellv hW.c1 hne) (fun h => h)) hW.ne1
  have c2 := h42.cellv (ho3'.cellv (ho3.cellv hW.c2 hne) (fun h => h)) hW.ne1
  have f2 : w4.frozen? ⟨b, 2, none⟩ = false := by
    rw [h42.frozen (p := ⟨b, 2, none⟩) (by simp; omega) hW.ne1, ho3'.frozen (p := ⟨b, 2, none⟩) (by simp; omega) (fun h => h), ho3.frozen (p := ⟨b, 2, none⟩) (by simp; omega) hne]
    exact hW.f2
  have hgb : g ≠ b := by
    intro e
    subst e
    rcases h43 with h | h
    · exact hW.ne1 (by rw [← h]; rfl)
    · simp only [Value.ownBlock, Option.some.injEq] at h; omega
  have hgm : g ≠ bm := by
    intro e
    subst e
    rcases h43 with h | h
    · exact hW.ne2 (by rw [← h]; rfl)
    · simp only [Value.ownBlock, Option.some.injEq] at h; omega
  refine ⟨?_, ?_, ?_⟩
  · refine ⟨?_, ?_, cell_same c2, by rw [World.frozen?_setCell]; exact f2, ?_, ?_, by simp only [Value.ownBlock, Option.some.injEq, ne_eq]; exact hgb, by simp only [Value.ownBlock, Option.some.injEq, ne_eq]; exact hgm, by simp; omega, hW.m1, hW.m2⟩
    · rw [cell_other (by simp)]; exact c0
    · rw [cell_other (by simp)]; exact c1
    · refine MapAt.setCell ?_ _ _ (Ne.symm hne)
      have hm : aset (L.map fun p => (p.1, Value.int .i64 p.2)) k (.int .i64 id) = (L ++ [(k, id)]).map fun p => (p.1, Value.int .i64 p.2) := by
        unfold aset
        rw [aget_map, hg]
        simp
      rw [← hm]
      exact (hm3.only ho3' (fun h => h)).only h42 (fun h => hW.own_ne h rfl)
    · rw [List.length_append, List.flatMap_append]
      exact h41.only ((Only.refl (· = b) w4).setCell _ (.inr rfl) _) (fun x hx => by simp only [Value.ownBlock, Option.some.injEq] at hx; subst hx; exact hgb)
  · refine Only.setCell ?_ _ (.inr (.inl rfl)) _
    refine Only.trans (Only.trans (ho3.mono (fun x _ hx => .inr (.inl hx))) ho3' (fun x _ hx => hx.elim)) h42 (fun x _ hx => .inr (.inr hx))
  · rcases h43 with h | h
    · exact .inl h
    · simp only [Value.ownBlock, Option.some.injEq] at h
      exact .inr (by omega)

theorem put_new (w : World) (b most : Nat) (L : List (Ky.K × Int)) (bm : Nat) (sl : Value) (h : KR w b most L bm sl) (k1 k2 : ByteArray) (id : Int) (hg : Ky.get L (k1, k2) = none) (hlt : L.length < most) :
    Calls Try.prog 9 #[.pointer (some ⟨b, 0, none⟩), .agg #[.string k1, .string k2], .int .i64 id] w (Put2 w b most L bm sl (k1, k2) id) := by
  have hl : ∀ n, (Instr.lookup 52 (.map (some bm)) (.agg #[.string k1, .string k2]) true).run Try.prog ((w.alloc (.cells #[.string k1, .string k2] 23)).drewN n) =
      .ok (.tuple #[.int .i64 0, .bool false]) ((w.alloc (.cells #[.string k1, .string k2] 23)).drewN n) := by
    intro n
    have := run_lookup_ok key_ok Try.underlying52 zero_int ((h.map.alloc (.cells #[.string k1, .string k2] 23)).drewN n) (k1, k2)
    rw [aget_map, hg] at this
    exact this
  have hb := World.block_lt_of_cell? w _ h.c1
  simp only at hb
  have c0 := h.c0
  have c1 := h.c1
  have c2 := h.c2
  obtain ⟨ad, cap, rfl, hcap, hcm⟩ := h.own.slAt.val
  have hne : ((L.length : Int) == (most : Int)) = false := by simp; omega
  have H := Lib.hid h
  have Hg := Lib.hid hg
  clear h hg
  go_enter Try.func9, Try.ntmps9
  go_wp2
  go_quiet (fail)
  go_wp2
  go_quiet (fail)
  go_wp2
  refine wp_abs (fun W => Only (fun _ => False) w W ∧ w.heap.size < W.heap.size ∧ CellsAt W w.heap.size 0 [.string k1, .string k2]) ⟨(((Only.refl _ w).alloc _).drewN _).drewN _, by simp, fun j u hj => ?_⟩ ?_
  · show (w.alloc _).cell? _ = _
    rw [World.cell?_alloc_at _ _ _ _ rfl]
    simpa using hj
  rintro W ⟨ho, hsz, hk⟩
  have h1 := H.out.only ho (fun h => h) (fun h => h) (fun _ _ h => h)
  clear c0 c1 c2 hl
  have k0' := hk 0 _ rfl
  have k1' := hk 1 _ rfl
  simp only [Nat.zero_add] at k0' k1'
  have c1' := h1.c1
  have hbm : bm < w.heap.size := H.out.map.lt
  have hbne : b ≠ bm := H.out.ne_map
  have HW := Lib.hid h1
  have hoh := Lib.hid ho
  clear h1 ho hk
  go_still_tail 6, (by kernel_rfl)
  change wpList _ _ _ _ _ W.drew
  refine wpList_update rfl key_ok Try.underlying52 (.tmp 52) (.tmp 53) (.tmp 54) rfl bm _ (k1, k2) (.int .i64 id) rfl rfl rfl HW.out.map.drew ?_
  rintro w3 hm3 ho3' hs3
  have ho3 : Only (· = bm) W w3 := ⟨ho3'.os, ho3'.tape, ho3'.output, ho3'.size, ho3'.block⟩
  have hb3 : b < w3.heap.size := by rw [hs3]; simp; omega
  have c2 := ho3.cellv HW.out.c2 hbne
  have f2 := (ho3.frozen (p := ⟨b, 2, none⟩) (World.block_lt_of_cell? W _ HW.out.c2) hbne).trans HW.out.f2
  have hown3 := Lib.hid (HW.out.own.only ho3 (fun g hg => HW.out.own_ne hg))
  have hk0 := ho3.cellv k0' (by simp; omega)
  have hk1 := ho3.cellv k1' (by simp; omega)
  have hm3' := Lib.hid hm3
  have ho3h := Lib.hid ho3
  have hs3' := Lib.hid hs3
  obtain ⟨i0, hi, hz0, hz1, hz2⟩ := info_parts info_key
  have hA := Lib.hid (OwnS.drew (OwnS.alloc hown3.out (.cells #[.string k1, .string k2] 23)))
  have hS := Lib.hid (Src.ofSlice (P := Try.prog) (size := 2) (w3.alloc (.cells #[.string k1, .string k2] 23)).drew Try.underlying53 ⟨w3.heap.size, 0, none⟩ 1 1 [.string k1, .string k2] rfl
    (World.news_of_block (cs := #[.string k1, .string k2]) (t := 23) (fr := (0, 0)) (heap_alloc_new w3 _)) (by simp [Value.oneCell']))
  have hn1 : L.length + 1 ≤ maxLen := by have := HW.out.le; have := HW.out.m2; unfold maxLen; omega
  have hn2 : (L.length + 1) * 32 ≤ 140737488355328 := by have := HW.out.le; have := HW.out.m2; omega
  have hz1c : ∀ u ∈ (Value.agg #[.string ⟨#[]⟩, .string ⟨#[]⟩]).cells.toList, u.oneCell' = true := by simp [Value.cells, Value.oneCell']
  clear hm3 ho3 ho3' c1' k0' k1' hs3
  go_wp2
  go_region_law (refine step_append rfl (.tmp 59) (.tmp 61) 53 53 rfl 23 i0 _ 2 32 Try.underlying53 hi hz0 hz1 hz2 rfl hz1c (.slice ad L.length cap) L.length _ rfl hA.out (.slice (some ⟨w3.heap.size, 0, none⟩) 1 1) 1 [.string k1, .string k2] rfl hS.out hn1 hn2 ?_; intro v' w4 h41 h42 h43; obtain ⟨g, o4, c4, rfl, h4a, h4b, h4c, h4d, h4e⟩ := h41.form (by omega); have c24 : w4.cell? ⟨b, 2, none⟩ = some (.slice ad L.length cap) := h42.cellv (by show (w3.alloc _).cell? _ = _; rw [World.cell?_alloc_past _ _ _ hb3]; exact c2) HW.out.ne1; have f24 : w4.frozen? ⟨b, 2, none⟩ = false := (h42.frozen (p := ⟨b, 2, none⟩) (by simp; omega) HW.out.ne1).trans (by show (w3.alloc _).frozen? _ = _; rw [World.frozen?_alloc_past _ _ _ hb3]; exact f2))
  all_goals
    go_wp2
    go_ret2
    obtain ⟨r1, r2, r3⟩ := push_end hlt Hg.out HW.out hm3'.out ho3h.out (((Only.refl _ w3).alloc _).drew) h41 h42 h43
    have e : Ky.put most L (k1, k2) id = (id, true, L ++ [((k1, k2), id)]) := by
      unfold Ky.put
      rw [Hg.out]
      simp only
      rw [if_neg (by omega)]
    refine ⟨by simp only [e]; rfl, .slice (some ⟨g, o4, none⟩) (L.length + 1) c4, ?_, Only.trans (hoh.out.mono (fun _ _ h => h.elim)) r2 (fun _ _ h => h), ?_⟩
    · rw [e]; exact r1
    · rcases r3 with r3 | r3
      · exact .inl r3
      · exact .inr fun x hx => by simp only [Value.ownBlock, Option.some.injEq] at hx; have := hoh.out.size; omega

theorem get_tail {p : Ky.K × Int} {L : List (Ky.K × Int)} {k : Ky.K} (h : Ky.get (p :: L) k = none) : Ky.get L k = none := by
  unfold Ky.get at h ⊢
  rw [List.find?_cons] at h
  split at h
  · simp at h
  · exact h

theorem KR.nodup {w : World} {b most : Nat} {L : List (Ky.K × Int)} {bm : Nat} {sl : Value} (h : KR w b most L bm sl) : (L.map (·.1)).Nodup := by
  obtain ⟨es, clock, _, _, hn, _⟩ := h.map
  simpa [List.map_map, Function.comp_def] using hn

set_option maxHeartbeats 800000 in
theorem put_full (w : World) (b most : Nat) (p : Ky.K × Int) (L : List (Ky.K × Int)) (bm : Nat) (sl : Value) (h : KR w b most (p :: L) bm sl) (k1 k2 : ByteArray) (id : Int) (hg : Ky.get (p :: L) (k1, k2) = none) (hlt : L.length + 1 = most) :
    Calls Try.prog 9 #[.pointer (some ⟨b, 0, none⟩), .agg #[.string k1, .string k2], .int .i64 id] w (Put2 w b most (p :: L) bm sl (k1, k2) id) := by
  have hl : ∀ n, (Instr.lookup 52 (.map (some bm)) (.agg #[.string k1, .string k2]) true).run Try.prog ((w.alloc (.cells #[.string k1, .string k2] 23)).drewN n) =
      .ok (.tuple #[.int .i64 0, .bool false]) ((w.alloc (.cells #[.string k1, .string k2] 23)).drewN n) := by
    intro n
    have := run_lookup_ok key_ok Try.underlying52 zero_int ((h.map.alloc (.cells #[.string k1, .string k2] 23)).drewN n) (k1, k2)
    rw [aget_map, hg] at this
    exact this
  have hb := World.block_lt_of_cell? w _ h.c1
  simp only at hb
  have c0 := h.c0
  have c1 := h.c1
  have c2 := h.c2
  obtain ⟨sb, so, cap, rfl, hcap, hcm, hsb, hcs, hfs⟩ := h.own.form (by simp)
  simp only [List.length_cons] at c2
  have hne : ((L.length : Int) + 1 == (most : Int)) = true := by simp; omega
  have H := Lib.hid h
  have Hg := Lib.hid hg
  have Hcs := Lib.hid hcs
  have hlt' := Lib.hid hlt
  clear h hg hcs hfs hlt
  go_enter Try.func9, Try.ntmps9
  go_wp2
  go_quiet (fail)
  go_wp2
  go_quiet (fail)
  go_wp2
  refine wp_abs (fun W => Only (fun _ => False) w W ∧ w.heap.size < W.heap.size ∧ CellsAt W w.heap.size 0 [.string k1, .string k2]) ⟨(((Only.refl _ w).alloc _).drewN _).drewN _, by simp, fun j u hj => ?_⟩ ?_
  · show (w.alloc _).cell? _ = _
    rw [World.cell?_alloc_at _ _ _ _ rfl]
    simpa using hj
  rintro W0 ⟨ho, hsz, hk⟩
  have h1 := H.out.only ho (fun h => h) (fun h => h) (fun _ _ h => h)
  have hs1 := (Hcs.out.only ho hsb (fun h => h))
  have q0 := hs1 0 _ rfl
  have q1 := hs1 1 _ rfl
  simp only [Nat.add_zero] at q0 q1
  have c1' := h1.c1
  have c2' := h1.c2
  simp only [List.length_cons] at c2'
  have hi0 : (0 : Int) < (L.length : Int) + 1 := by omega
  have HW0 := Lib.hid h1
  have hoh0 := Lib.hid ho
  have hk0 := Lib.hid hk
  clear c0 c1 c2 hl h1 hs1 ho hk
  go_still_tail 10, (by kernel_rfl)
  change wpList _ _ _ _ _ W0.drew
  refine wpList_delete rfl key_ok Try.underlying52 (.tmp 34) (.tmp 40) _ rfl bm _ (p.1.1, p.1.2) rfl rfl HW0.out.map.drew ?_
  rintro w2 hm2 ho2' hs2
  have ho2 : Only (· = bm) W0 w2 := ⟨ho2'.os, ho2'.tape, ho2'.output, ho2'.size, ho2'.block⟩
  have hbne : b ≠ bm := H.out.ne_map
  have hbm : bm < w.heap.size := H.out.map.lt
  have c2 := ho2.cellv c2' hbne
  have f2 := (ho2.frozen (p := ⟨b, 2, none⟩) (World.block_lt_of_cell? W0 _ HW0.out.c2) hbne).trans HW0.out.f2
  have hdel : adel ((p :: L).map fun q => (q.1, Value.int .i64 q.2)) p.1 = L.map fun q => (q.1, Value.int .i64 q.2) := by
    have hn := HW0.out.nodup
    simp only [List.map_cons, List.nodup_cons] at hn
    simp only [adel, List.map_cons, List.filter_cons, decide_true, Bool.not_true, Bool.false_eq_true, if_false]
    rw [List.filter_eq_self]
    intro q hq
    obtain ⟨x, hx, rfl⟩ := List.mem_map.1 hq
    have : x.1 ≠ p.1 := fun e => hn.1 (by rw [← e]; exact List.mem_map_of_mem hx)
    simp [this]
  have hm2' : MapAt ek w2 bm (L.map fun q => (q.1, Value.int .i64 q.2)) := by rw [← hdel]; exact hm2
  have hmid : ∀ so2, so2 = (if cap = 1 then so else so + 2) → ∃ W, W = w2.setCell ⟨b, 2, none⟩ (.slice (some ⟨sb, so2, none⟩) L.length (cap - 1)) ∧ KR W b most L bm (.slice (some ⟨sb, so2, none⟩) L.length (cap - 1)) ∧
      Only (fun x => x = b ∨ x = bm ∨ (Value.slice (some ⟨sb, so, none⟩) (L.length + 1) cap).ownBlock = some x) w W ∧ w.heap.size < W.heap.size ∧ CellsAt W w.heap.size 0 [.string k1, .string k2] := by
    intro so2 hso
    have ho2w := ((Only.refl (· = b) w2).setCell ⟨b, 2, none⟩ (.inr rfl) (.slice (some ⟨sb, so2, none⟩) L.length (cap - 1)))
    have how := HW0.out.own.only ho2 (fun g hg => HW0.out.own_ne hg)
    have how2 := how.only ho2w (fun g hg e => by subst e; exact HW0.out.ne1 hg)
    simp only [List.length_cons] at how2
    have how3 := how2.tail
    rw [← hso] at how3
    refine ⟨_, rfl, ⟨?_, ?_, cell_same c2, by rw [World.frozen?_setCell]; exact f2, ?_, ?_, ?_, ?_, by have := H.out.le; simp at this; omega, H.out.m1, H.out.m2⟩, ?_, ?_, ?_⟩
    · rw [cell_other (by simp)]; exact ho2.cellv HW0.out.c0 hbne
    · rw [cell_other (by simp)]; exact ho2.cellv HW0.out.c1 hbne
    · exact hm2'.setCell _ _ (Ne.symm hbne)
    · exact how3
    · intro e; exact H.out.ne1 e
    · intro e; exact H.out.ne2 e
    · refine Only.setCell ?_ _ (.inr (.inl rfl)) _
      exact Only.trans (hoh0.out.mono (fun _ _ h => h.elim)) ho2 (fun x _ hx => .inr (.inl hx))
    · have := ho2.size; simp; omega
    · intro j u hj
      rw [cell_other (by first | (simp; done) | (simp; omega))]
      exact ho2.cellv (hk0.out j u hj) (by simp; omega)
  have hmid' := Lib.hid hmid
  clear hmid hm2 hm2' ho2 ho2' hs2 q0 q1 c1' c2' hdel
  have hcap1 : L.length + 1 ≤ cap := hcap
  by_cases hc1 : cap = 1
  · subst hc1
    have hmid'' : ∀ W, W = w2.setCell ⟨b, 2, none⟩ (.slice (some ⟨sb, so, none⟩) L.length 0) → KR W b most L bm (.slice (some ⟨sb, so, none⟩) L.length 0) ∧ Only (fun x => x = b ∨ x = bm ∨ (Value.slice (some ⟨sb, so, none⟩) (L.length + 1) 1).ownBlock = some x) w W ∧ w.heap.size < W.heap.size ∧ CellsAt W w.heap.size 0 [.string k1, .string k2] := by
      intro W hW
      obtain ⟨W', hWe, h1⟩ := hmid'.out so (by simp)
      subst hW
      subst hWe
      exact h1
    have hmid3 := Lib.hid hmid''
    clear hmid'' hmid' hcap hcap1
    go_wp2
    have hmid'' := hmid3.out _ rfl
    refine wp_abs (fun W => KR W b most L bm (.slice (some ⟨sb, so, none⟩) L.length 0) ∧ Only (fun x => x = b ∨ x = bm ∨ (Value.slice (some ⟨sb, so, none⟩) (L.length + 1) 1).ownBlock = some x) w W ∧ w.heap.size < W.heap.size ∧ CellsAt W w.heap.size 0 [.string k1, .string k2]) hmid'' ?_
    rintro W ⟨h1, ho, hsz, hk⟩
    clear hmid''
    have k0' := hk 0 _ rfl
    have k1' := hk 1 _ rfl
    simp only [Nat.zero_add] at k0' k1'
    have c1' := h1.c1
    have HW := Lib.hid h1
    have hoh := Lib.hid ho
    clear h1 ho hk
    go_still_tail 6, (by kernel_rfl)
    change wpList _ _ _ _ _ W.drew
    refine wpList_update rfl key_ok Try.underlying52 (.tmp 52) (.tmp 53) (.tmp 54) rfl bm _ (k1, k2) (.int .i64 id) rfl rfl rfl HW.out.map.drew ?_
    rintro w3 hm3 ho3' hs3
    have ho3 : Only (· = bm) W w3 := ⟨ho3'.os, ho3'.tape, ho3'.output, ho3'.size, ho3'.block⟩
    have hb3 : b < w3.heap.size := by rw [hs3]; simp; omega
    have c2 := ho3.cellv HW.out.c2 hbne
    have f2 := (ho3.frozen (p := ⟨b, 2, none⟩) (World.block_lt_of_cell? W _ HW.out.c2) hbne).trans HW.out.f2
    have hown3 := Lib.hid (HW.out.own.only ho3 (fun g hg => HW.out.own_ne hg))
    have hk0 := ho3.cellv k0' (by simp; omega)
    have hk1 := ho3.cellv k1' (by simp; omega)
    have hm3' := Lib.hid hm3
    have ho3h := Lib.hid ho3
    have hs3' := Lib.hid hs3
    obtain ⟨i0, hi, hz0, hz1, hz2⟩ := info_parts info_key
    have hA := Lib.hid (OwnS.drew (OwnS.alloc hown3.out (.cells #[.string k1, .string k2] 23)))
    have hS := Lib.hid (Src.ofSlice (P := Try.prog) (size := 2) (w3.alloc (.cells #[.string k1, .string k2] 23)).drew Try.underlying53 ⟨w3.heap.size, 0, none⟩ 1 1 [.string k1, .string k2] rfl
      (World.news_of_block (cs := #[.string k1, .string k2]) (t := 23) (fr := (0, 0)) (heap_alloc_new w3 _)) (by simp [Value.oneCell']))
    have hn1 : L.length + 1 ≤ maxLen := by have := HW.out.le; have := HW.out.m2; unfold maxLen; omega
    have hn2 : (L.length + 1) * 32 ≤ 140737488355328 := by have := HW.out.le; have := HW.out.m2; omega
    have hz1c : ∀ u ∈ (Value.agg #[.string ⟨#[]⟩, .string ⟨#[]⟩]).cells.toList, u.oneCell' = true := by simp [Value.cells, Value.oneCell']
    clear hm3 ho3 ho3' c1' k0' k1' hs3
    go_wp2
    go_region_law (refine step_append rfl (.tmp 59) (.tmp 61) 53 53 rfl 23 i0 _ 2 32 Try.underlying53 hi hz0 hz1 hz2 rfl hz1c (.slice (some ⟨sb, so, none⟩) L.length 0) L.length _ rfl hA.out (.slice (some ⟨w3.heap.size, 0, none⟩) 1 1) 1 [.string k1, .string k2] rfl hS.out hn1 hn2 ?_; intro v' w4 h41 h42 h43; obtain ⟨g, o4, c4, rfl, h4a, h4b, h4c, h4d, h4e⟩ := h41.form (by omega); have c24 : w4.cell? ⟨b, 2, none⟩ = some (.slice (some ⟨sb, so, none⟩) L.length 0) := h42.cellv (by show (w3.alloc _).cell? _ = _; rw [World.cell?_alloc_past _ _ _ hb3]; exact c2) HW.out.ne1; have f24 : w4.frozen? ⟨b, 2, none⟩ = false := (h42.frozen (p := ⟨b, 2, none⟩) (by simp; omega) HW.out.ne1).trans (by show (w3.alloc _).frozen? _ = _; rw [World.frozen?_alloc_past _ _ _ hb3]; exact f2))
    all_goals
      go_wp2
      go_ret2
      obtain ⟨r1, r2, r3⟩ := push_end (by have := hlt'.out; omega) (get_tail Hg.out) HW.out hm3'.out ho3h.out (((Only.refl _ w3).alloc _).drew) h41 h42 h43
      have e : Ky.put most (p :: L) (k1, k2) id = (id, true, L ++ [((k1, k2), id)]) := by
        unfold Ky.put
        rw [Hg.out]
        simp only
        rw [if_pos (by simp; exact hlt'.out)]
        rfl
      refine ⟨by simp only [e]; rfl, .slice (some ⟨g, o4, none⟩) (L.length + 1) c4, ?_, Only.trans hoh.out r2 (fun _ _ h => h), ?_⟩
      · rw [e]; exact r1
      · rcases r3 with r3 | r3
        · exact .inl r3
        · exact .inr fun x hx => by simp only [Value.ownBlock, Option.some.injEq] at hx; have := hoh.out.size; omega
  · have hmid'' : ∀ W, W = w2.setCell ⟨b, 2, none⟩ (.slice (some ⟨sb, so + 2, none⟩) L.length (cap - 1)) → KR W b most L bm (.slice (some ⟨sb, so + 2, none⟩) L.length (cap - 1)) ∧ Only (fun x => x = b ∨ x = bm ∨ (Value.slice (some ⟨sb, so, none⟩) (L.length + 1) cap).ownBlock = some x) w W ∧ w.heap.size < W.heap.size ∧ CellsAt W w.heap.size 0 [.string k1, .string k2] := by
      intro W hW
      obtain ⟨W', hWe, h1⟩ := hmid'.out (so + 2) (by rw [if_neg hc1])
      subst hW
      subst hWe
      exact h1
    have hmid3 := Lib.hid hmid''
    clear hmid'' hmid'
    go_wp2
    have hmid'' := hmid3.out _ rfl
    refine wp_abs (fun W => KR W b most L bm (.slice (some ⟨sb, so + 2, none⟩) L.length (cap - 1)) ∧ Only (fun x => x = b ∨ x = bm ∨ (Value.slice (some ⟨sb, so, none⟩) (L.length + 1) cap).ownBlock = some x) w W ∧ w.heap.size < W.heap.size ∧ CellsAt W w.heap.size 0 [.string k1, .string k2]) hmid'' ?_
    rintro W ⟨h1, ho, hsz, hk⟩
    clear hmid''
    have k0' := hk 0 _ rfl
    have k1' := hk 1 _ rfl
    simp only [Nat.zero_add] at k0' k1'
    have c1' := h1.c1
    have HW := Lib.hid h1
    have hoh := Lib.hid ho
    clear h1 ho hk
    go_still_tail 6, (by kernel_rfl)
    change wpList _ _ _ _ _ W.drew
    refine wpList_update rfl key_ok Try.underlying52 (.tmp 52) (.tmp 53) (.tmp 54) rfl bm _ (k1, k2) (.int .i64 id) rfl rfl rfl HW.out.map.drew ?_
    rintro w3 hm3 ho3' hs3
    have ho3 : Only (· = bm) W w3 := ⟨ho3'.os, ho3'.tape, ho3'.output, ho3'.size, ho3'.block⟩
    have hb3 : b < w3.heap.size := by rw [hs3]; simp; omega
    have c2 := ho3.cellv HW.out.c2 hbne
    have f2 := (ho3.frozen (p := ⟨b, 2, none⟩) (World.block_lt_of_cell? W _ HW.out.c2) hbne).trans HW.out.f2
    have hown3 := Lib.hid (HW.out.own.only ho3 (fun g hg => HW.out.own_ne hg))
    have hk0 := ho3.cellv k0' (by simp; omega)
    have hk1 := ho3.cellv k1' (by simp; omega)
    have hm3' := Lib.hid hm3
    have ho3h := Lib.hid ho3
    have hs3' := Lib.hid hs3
    obtain ⟨i0, hi, hz0, hz1, hz2⟩ := info_parts info_key
    have hA := Lib.hid (OwnS.drew (OwnS.alloc hown3.out (.cells #[.string k1, .string k2] 23)))
    have hS := Lib.hid (Src.ofSlice (P := Try.prog) (size := 2) (w3.alloc (.cells #[.string k1, .string k2] 23)).drew Try.underlying53 ⟨w3.heap.size, 0, none⟩ 1 1 [.string k1, .string k2] rfl
      (World.news_of_block (cs := #[.string k1, .string k2]) (t := 23) (fr := (0, 0)) (heap_alloc_new w3 _)) (by simp [Value.oneCell']))
    have hn1 : L.length + 1 ≤ maxLen := by have := HW.out.le; have := HW.out.m2; unfold maxLen; omega
    have hn2 : (L.length + 1) * 32 ≤ 140737488355328 := by have := HW.out.le; have := HW.out.m2; omega
    have hz1c : ∀ u ∈ (Value.agg #[.string ⟨#[]⟩, .string ⟨#[]⟩]).cells.toList, u.oneCell' = true := by simp [Value.cells, Value.oneCell']
    clear hm3 ho3 ho3' c1' k0' k1' hs3
    go_wp2
    go_region_law (refine step_append rfl (.tmp 59) (.tmp 61) 53 53 rfl 23 i0 _ 2 32 Try.underlying53 hi hz0 hz1 hz2 rfl hz1c (.slice (some ⟨sb, so + 2, none⟩) L.length (cap - 1)) L.length _ rfl hA.out (.slice (some ⟨w3.heap.size, 0, none⟩) 1 1) 1 [.string k1, .string k2] rfl hS.out hn1 hn2 ?_; intro v' w4 h41 h42 h43; obtain ⟨g, o4, c4, rfl, h4a, h4b, h4c, h4d, h4e⟩ := h41.form (by omega); have c24 : w4.cell? ⟨b, 2, none⟩ = some (.slice (some ⟨sb, so + 2, none⟩) L.length (cap - 1)) := h42.cellv (by show (w3.alloc _).cell? _ = _; rw [World.cell?_alloc_past _ _ _ hb3]; exact c2) HW.out.ne1; have f24 : w4.frozen? ⟨b, 2, none⟩ = false := (h42.frozen (p := ⟨b, 2, none⟩) (by simp; omega) HW.out.ne1).trans (by show (w3.alloc _).frozen? _ = _; rw [World.frozen?_alloc_past _ _ _ hb3]; exact f2))
    all_goals
      go_wp2
      go_ret2
      obtain ⟨r1, r2, r3⟩ := push_end (by have := hlt'.out; omega) (get_tail Hg.out) HW.out hm3'.out ho3h.out (((Only.refl _ w3).alloc _).drew) h41 h42 h43
      have e : Ky.put most (p :: L) (k1, k2) id = (id, true, L ++ [((k1, k2), id)]) := by
        unfold Ky.put
        rw [Hg.out]
        simp only
        rw [if_pos (by simp; exact hlt'.out)]
        rfl
      refine ⟨by simp only [e]; rfl, .slice (some ⟨g, o4, none⟩) (L.length + 1) c4, ?_, Only.trans hoh.out r2 (fun _ _ h => h), ?_⟩
      · rw [e]; exact r1
      · rcases r3 with r3 | r3
        · exact .inl r3
        · exact .inr fun x hx => by simp only [Value.ownBlock, Option.some.injEq] at hx; have := hoh.out.size; omega

theorem put_any (w : World) (b most : Nat) (L : List (Ky.K × Int)) (bm : Nat) (sl : Value) (h : KR w b most L bm sl) (k1 k2 : ByteArray) (id : Int) :
    Calls Try.prog 9 #[.pointer (some ⟨b, 0, none⟩), .agg #[.string k1, .string k2], .int .i64 id] w (Put2 w b most L bm sl (k1, k2) id) := by
  cases hg : Ky.get L (k1, k2) with
  | some had => exact put_had w b most L bm sl h k1 k2 id had hg
  | none =>
    by_cases hlt : L.length < most
    · exact put_new w b most L bm sl h k1 k2 id hg hlt
    · have := h.le
      have := h.m1
      cases L with
      | nil => simp at hlt; omega
      | cons p L => exact put_full w b most p L bm sl h k1 k2 id hg (by simp at hlt this; omega)
end Go.Proofs.Ytgcmklheifjciaa.KyW
