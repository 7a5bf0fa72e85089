/- strings.Join (and the Builder that it uses) as a contract over the symbolic heap. Conditions: as each states them. -/
import Derived.Test.YthljbjokonglhaaGreatDoorDfL3
namespace Go.Proofs.YthljbjokonglhaaGreatDoor.DfK
open Go Am Am.K DfEnv DfM LibP
set_option linter.unusedVariables false
set_option linter.unusedSimpArgs false
set_option maxRecDepth 10000
theorem same_sl (i o n c : Nat) (ex : Bool) (es : Nat) : same (.slice i o n c ex es) (.slice i o n c ex es) = true := by simp [same, sameS, Nat.beq_refl]
theorem same_int (k : IntKind) (z : Int) : same (.int k z) (.int k z) = true := by simp [same, sameS]
theorem SM_sl (i o n c : Nat) (ex : Bool) (es : Nat) (x : R) : SM (.slice i o n c ex es) (.slice i o n c ex es) x = x := SM_t (same_sl ..)
theorem SM_int (k : IntKind) (z : Int) (x : R) : SM (.int k z) (.int k z) x = x := SM_t (same_int ..)
/-- a builder -/
structure Bu (H : Hp) (p : Nat) (sl : AV) (l : Str) : Prop where
  c : Cs H p [.ptr p 0, sl] 112 0
  o : Ow H 5 1 sl (bs l)
  ne : p ∉ rid sl
theorem noEsc_c (x : AV) (H : Hp) : cK (.func (.func 108) [] []) [x] H = some (x, H) :=
  ck_ext (k := .same) (by kernel_rfl) Tryz.func108 rfl (by kernel_rfl) rfl
theorem makeNoZero_c {n : Nat} (hn : n ≤ 1048576) (H : Hp) : cK (.func (.func 109) [] []) [.int .i64 n] H = some (.slice H.next 0 n n false 1, al H (List.replicate n .junk) 5 0) := by
  refine ck_ext (k := .noZero 110) (by kernel_rfl) Tryz.func109 rfl (by kernel_rfl) ?_
  have hu : P.underlying 110 = some (.slice 5) := Tryz.underlying110
  unfold extA
  simp only [hu]
  rw [if_pos ⟨by omega, by omega⟩, Int.toNat_natCast, newCells_al (by rw [List.length_replicate]; omega)]
  rfl
theorem convU {H : Hp} {p : Nat} {l : List AV} {el fl : Nat} (h : Cs H p l el fl) (hl : 0 < l.length) : convA P 109 153 (.ptr p 0) H = some (.ptr p 0, H) := by
  have h1 : P.underlying 109 = some (.pointer 112) := Tryz.underlying109
  have h2 : P.underlying 153 = some .unsafePointer := Tryz.underlying153
  have h3 : posSz P 112 = true := by kernel_rfl
  have h4 := h.cellAt (List.getElem?_eq_getElem hl)
  unfold convA
  simp only [h1, h2, h3, h4, Option.isSome_some, Bool.and_self, cond_true]
theorem convB {H : Hp} {p : Nat} {a b : AV} (h : Cs H p [a, b] 112 0) : convA P 153 109 (.ptr p 0) H = some (.ptr p 0, H) := by
  have h1 : P.underlying 109 = some (.pointer 112) := Tryz.underlying109
  have h2 : P.underlying 153 = some .unsafePointer := Tryz.underlying153
  have h3 : P.cellsOf 112 = 2 := by kernel_rfl
  have h4 := h.cellAt (o := 1) (v := b) rfl
  obtain ⟨_, c, hc, _⟩ := h
  unfold convA
  simp only [h1, h2, hc, h3, Nat.reduceSub, h4]
  rfl
theorem check0_c {H : Hp} {p : Nat} (h : Cs H p [.ptr0, .slice0] 112 0) : ∃ H', cK (.func (.func 96) [] []) [.ptr p 0] H = some (.tuple [], H') ∧ Cs H' p [.ptr p 0, .slice0] 112 0 ∧ Out [p] H H' ∧ H'.next = H.next := by
  obtain ⟨H', w1, w2, w3, w4⟩ := st1 h (by decide) (o := 0) (by decide) (v := .ptr p 0) rfl
  refine ⟨H', c_strings_Builder_copyCheck ?_, w2, w3, w4⟩
  unfold s_strings_Builder_copyCheck
  have h1 := h.ld (o := 0) (v := .ptr0) rfl
  simp only [Nat.add_zero, h1, convU h (by decide), noEsc_c, convB h, w1, k_s, k_x, Int.reduceBEq, Int.reduceBNe, Int.reduceLT, Int.reduceLE, Int.reduceGT, Int.reduceGE, Int.reduceNeg]
theorem pe_self (p o : Nat) (H : Hp) : pe (.ptr p o) (.ptr p o) H = some true := by
  unfold pe
  simp [Nat.beq_refl]
theorem check_c {H : Hp} {p : Nat} {sl : AV} {l : Str} (h : Bu H p sl l) : cK (.func (.func 96) [] []) [.ptr p 0] H = some (.tuple [], H) := by
  refine c_strings_Builder_copyCheck ?_
  unfold s_strings_Builder_copyCheck
  have h1 := h.c.ld (o := 0) (v := .ptr p 0) rfl
  simp only [Nat.add_zero, h1, pe_self, k_s, k_x, Int.reduceBEq, Int.reduceBNe, Int.reduceLT, Int.reduceLE, Int.reduceGT, Int.reduceGE, Int.reduceNeg]
theorem ow_junk {H : Hp} {n el : Nat} (hn : 0 < n) : Ow (al H (List.replicate n .junk) el 0) el 1 (.slice H.next 0 0 n false 1) [] := by
  have hcs := al_cs H (List.replicate n .junk) el 0
  obtain ⟨hi, c, hc, hg⟩ := hcs
  refine .mk hi hc (by decide) (Nat.le_refl _) (by rw [List.length_replicate]; omega) (Nat.zero_le _) (by simp) (fun k v hk => by simp at hk) (fun k hk => ?_) (fun v hv => by cases hv) rfl
  rw [Nat.zero_add, hg k .junk (by rw [List.getElem?_replicate, if_pos (by omega)])]; rfl
theorem grow_c {H : Hp} {p n : Nat} (hn0 : 0 < n) (hn : n ≤ 1000000) (h : Cs H p [.ptr0, .slice0] 112 0) : ∃ sl H', cK (.func (.func 67) [] []) [.ptr p 0, .int .i64 n] H = some (.tuple [], H') ∧ Bu H' p sl [] ∧ Out [p] H H' ∧ ∀ j ∈ rid sl, H.next ≤ j := by
  obtain ⟨H1, c1, c2, c3, c4⟩ := check0_c h
  have hu : P.underlying 110 = some (.slice 5) := Tryz.underlying110
  have hcap : ∀ H : Hp, builtinA P .cap #[110] [.slice0] H = some (.int .i64 0, H) := fun H => by
    unfold builtinA
    simp only
    unfold capA
    simp only [hu, List.getElem?_toArray, List.getElem?_cons_zero, Option.bind_some]
    rfl
  have l1 := c2.ld (o := 1) (v := .slice0) rfl
  have e1 : IntKind.wrap .i64 (0 + (n : Int)) = (n : Int) := by rw [wrap_i64 (by omega) (by omega)]; omega
  have e0 : IntKind.wrap .i64 (2 * 0) = 0 := by rw [wrap_i64 (by omega) (by omega)]; omega
  have e2 : IntKind.wrap .i64 (0 - 0) = 0 := by rw [wrap_i64 (by omega) (by omega)]; omega
  have hm := makeNoZero_c (show n ≤ 1048576 by omega) H1
  have hout := al_out H1 (List.replicate n .junk) 5 0
  have c2' := c2.out hout (by simp)
  have l1' := c2'.ld (o := 1) (v := .slice0) rfl
  have hsl : sll 1 (.slice H1.next 0 n n false 1) none (some (.int .i64 0)) none = some (.slice H1.next 0 0 n false 1) := by
    unfold sll
    have := sliceBnd_ok (len := n) (cap := n) (a := 0) (b := 0) (lo := none) (hi := some (.int .i64 0)) (Nat.le_refl _) (Nat.zero_le _) (Nat.le_refl _) (Bd.no 0) (Bd.yes0 .i64 _)
    simp only [this]
    simp
  have hcp : ∀ H : Hp, cpy 1 (.slice H1.next 0 0 n false 1) .slice0 H = some (.int .i64 0, H) := fun H => by unfold cpy; simp [lenS]
  obtain ⟨H2, w1, w2, w3, w4⟩ := st1 c2' (by decide) (o := 1) (by simp) (v := .slice H1.next 0 0 n false 1) rfl
  have hg : cK (.func (.func 97) [] []) [.ptr p 0, .int .i64 n] H1 = some (.tuple [], H2) := by
    refine c_strings_Builder_grow ?_
    unfold s_strings_Builder_grow
    have hs0 : ∀ x : R, SM .slice0 .slice0 x = x := fun x => SM_t rfl
    simp only [l1, hcap, e0, e1, hm, l1', hsl, hs0, SM_int, hcp, w1, k_s, k_x, Int.reduceBEq, Int.reduceBNe, Int.reduceLT, Int.reduceLE, Int.reduceGT, Int.reduceGE, Int.reduceNeg]
  have hlt : p < H1.next := by rw [c4]; exact h.1
  refine ⟨.slice H1.next 0 0 n false 1, H2, c_strings_Builder_Grow ?_, ⟨w2, (ow_junk hn0).out w3 (fun j hj => by
    rw [rid_s (by rfl), List.mem_singleton] at hj
    rw [List.mem_singleton]; omega), by rw [rid_s (by rfl), List.mem_singleton]; omega⟩, (c3.trans (hout.mono (S' := [p]) (fun j hj => by cases hj))).trans w3, fun j hj => by rw [rid_s (by rfl), List.mem_singleton] at hj; omega⟩
  unfold s_strings_Builder_Grow
  have d1 : decide ((n : Int) < 0) = false := decide_eq_false (by omega)
  have d2 : decide ((0 : Int) < (n : Int)) = true := decide_eq_true (by omega)
  simp only [c1, d1, l1, hcap, e2, d2, hg, k_s, k_x, Int.reduceBEq, Int.reduceBNe, Int.reduceLT, Int.reduceLE, Int.reduceGT, Int.reduceGE, Int.reduceNeg]
theorem write_c {H : Hp} {p : Nat} {sl : AV} {l s : Str} (h : Bu H p sl l) (hl : l.length + s.length ≤ 16777216) : ∃ sl' H', cK (.func (.func 68) [] []) [.ptr p 0, .str s] H = some (.tuple [.int .i64 s.length, .nilIface], H') ∧ Bu H' p sl' (l ++ s) ∧ Out (p :: rid sl) H H' ∧ ∀ j ∈ rid sl', j ∈ rid sl ∨ H.next ≤ j := by
  obtain ⟨sl', H1, a1, a2, a3, a4⟩ := ap2_ok (n := s.length) (new := bs s) h.o (by rw [bs_len, Nat.mul_one]) (bs_one s) (by decide) (by rw [bs_len, bs_len]; exact hl)
  have happ : app' 5 1 [(.int .u8 0)] false sl (.str s) H = some (sl', H1) := by
    unfold app'
    have : apn 1 [(.int .u8 0)] false (.str s) H = some (s.length, bs s) := by unfold apn; simp [bs]
    rw [this]; exact a1
  have hc1 := h.c.out a3 h.ne
  obtain ⟨H2, w1, w2, w3, w4⟩ := st1 hc1 (by decide) (o := 1) (by simp) (v := sl') a2.oneX
  have hne : p ∉ rid sl' := fun q => (a4 p q).elim h.ne fun q => by have := h.c.1; omega
  refine ⟨sl', H2, c_strings_Builder_WriteString ?_, ⟨w2, by rw [bs_app]; exact a2.out w3 (fun j hj => by rw [List.mem_singleton]; intro e; subst e; exact hne hj), hne⟩, ?_, a4⟩
  · unfold s_strings_Builder_WriteString
    have l1 := h.c.ld (o := 1) (v := sl) rfl
    simp only [check_c h, l1, happ, w1, k_s, k_x, Int.reduceBEq, Int.reduceBNe, Int.reduceLT, Int.reduceLE, Int.reduceGT, Int.reduceGE, Int.reduceNeg]
  · exact (a3.mono fun j hj => .tail _ hj).trans (w3.mono fun j hj => by rw [List.mem_singleton] at hj; subst hj; exact .head _)
theorem string_c {H : Hp} {p : Nat} {sl : AV} {l : Str} (h : Bu H p sl l) (h0 : 0 < l.length) (hl : l.length < 16777216) (hb : ∀ b ∈ l, b < 256) : ∃ H', cK (.func (.func 69) [] []) [.ptr p 0] H = some (.str l, H') ∧ Out (rid sl) H H' := by
  have l1 := h.c.ld (o := 1) (v := sl) rfl
  have ho := h.o
  have hne := h.ne
  generalize hcl : bs l = cs at ho
  cases ho with
  | nil =>
    have : l = [] := by simpa [bs] using hcl
    subst this; simp at h0
  | emp =>
    have : l = [] := by simpa [bs] using hcl
    subst this; simp at h0
  | @mk i off n cap ex _ c lo hi fl hi' hg hf hlo hhi hcap hn hcc hs h1 he =>
    subst hcl
    rw [bs_len, Nat.mul_one] at hn
    have hro : Ro H i off (bs l) := ⟨hi', c, lo, hi, 5, fl, hg, hlo, by rw [bs_len]; omega, hcc⟩
    have hcells := hro.cellsAt
    rw [bs_len, hn] at hcells
    rw [rid_s he, List.mem_singleton] at hne
    have hx : ((cellsAt H i off n).bind toBytes) = some l := by rw [hcells]; exact toBytes_bs l hb
    refine ⟨{ H with h := H.h.upd i (.cells c lo hi 5 2) }, c_strings_Builder_String ?_, ⟨Nat.le_refl _, fun j hj hjn => ?_⟩⟩
    · unfold s_strings_Builder_String
      have b1 : builtinA P .unsafeSliceData #[110] [.slice i off n cap ex 1] H = some (.ptr i off, H) := by
        unfold builtinA
        have : Nat.blt 0 n = true := by rw [Nat.blt_eq]; omega
        simp only [this, cond_true]
      have b2 : builtinA P .unsafeString #[143, 3] [.ptr i off, .int .i64 (n : Nat)] H = some (.str l, { H with h := H.h.upd i (.cells c lo hi 5 2) }) := by
        have hu : P.underlying 143 = some (.pointer 5) := Tryz.underlying143
        have hc1 : P.cellsOf 5 = 1 := by kernel_rfl
        unfold builtinA
        simp only
        unfold unsafeStrA
        simp only [hu]
        rw [if_neg (by omega)]
        simp only [hg]
        rw [if_pos ⟨trivial, hc1, by omega, by omega, hf⟩, Int.toNat_natCast, hx]
        rfl
      simp only [l1, b1, b2, SM_sl, SM_int, k_s, k_x, Int.reduceBEq, Int.reduceBNe, Int.reduceLT, Int.reduceLE, Int.reduceGT, Int.reduceGE, Int.reduceNeg]
    · rw [rid_s he, List.mem_singleton] at hjn
      show (Tr.upd H.h i _).get j = _
      rw [Tr.upd, Tr.get_putP, if_neg hjn]
/-- behind the first: a separator ahead of each -/
def joT (sep : Str) : List Str → Str
  | [] => []
  | a :: l => sep ++ a ++ joT sep l
def joiS (sep : Str) : List Str → Str
  | [] => []
  | a :: l => a ++ joT sep l
theorem joiS_c (c : Nat) : ∀ l : List Str, joiS [c] l = joi c l
  | [] => rfl
  | [a] => by simp [joiS, joT, joi]
  | a :: b :: l => by
    have := joiS_c c (b :: l)
    show a ++ ([c] ++ b ++ joT [c] l) = a ++ c :: joi c (b :: l)
    rw [← this]
    simp [joiS]
def sumL (l : List Str) : Nat := (l.map List.length).sum
theorem joT_len (sep : Str) : ∀ l, (joT sep l).length = sep.length * l.length + sumL l
  | [] => by simp [joT, sumL]
  | a :: l => by
    have := joT_len sep l
    simp only [joT, List.length_append, this, List.length_cons, Nat.mul_add, Nat.mul_one, sumL, List.map_cons, List.sum_cons]
    omega
theorem join_loop {x : AV} {l : List Str} {H : Hp} (hx : Rw H 1 x (strs l)) (hl : l.length ≤ 1000) (hb : ∀ s ∈ l, s.length ≤ 100000) (k : K.Fn 3) (y z : AV) : ∀ (r : List Str) (i acc : Nat), i ≤ l.length → l.drop i = r → acc ≤ 1000000 + i * 100000 →
    l_strings_Join JN GO cK k y z (.int .i64 acc) x (.int .i64 (l.length : Nat)) (.int .i64 (i : Nat)) H = k y z (.int .i64 ((acc + sumL r : Nat) : Int)) H
  | [], i, acc, hi, h, ha => by
    obtain rfl := drop_nil hi h
    rw [ql_strings_Join]
    simp only [bl_strings_Join, lt_f, sumL, List.map_nil, List.sum_nil, Nat.add_zero, k_s, k_x, Int.reduceBEq, Int.reduceBNe, Int.reduceLT, Int.reduceLE, Int.reduceGT, Int.reduceGE, Int.reduceNeg]
  | a :: r, i, acc, hi, h, ha => by
    obtain ⟨h1, h2, h3⟩ := hd_drop h
    obtain ⟨q, q1, q2⟩ := hx.ia1 (strs_get h2) .i64
    have e := wrap_s h1 (by omega)
    have hal := hb a (List.mem_of_getElem? h2)
    have hacc : acc + a.length ≤ 1000000 + (i + 1) * 100000 := by omega
    have ih := join_loop hx hl hb k y z r (i + 1) (acc + a.length) h1 h3 hacc
    have e1 : IntKind.wrap .i64 (9223372036854775807 - (acc : Int)) = 9223372036854775807 - (acc : Int) := wrap_i64 (by omega) (by omega)
    have d : decide (9223372036854775807 - (acc : Int) < (a.length : Int)) = false := decide_eq_false (by omega)
    have e2 : IntKind.wrap .i64 ((acc : Int) + (a.length : Int)) = ((acc + a.length : Nat) : Int) := by rw [wrap_i64 (by omega) (by omega)]; rfl
    have e3 : acc + sumL (a :: r) = acc + a.length + sumL r := by simp [sumL]; omega
    rw [ql_strings_Join, e3]
    simp only [bl_strings_Join, lt_t h1, q1, q2, e1, d, e2, e, ih, k_s, k_x, Int.reduceBEq, Int.reduceBNe, Int.reduceLT, Int.reduceLE, Int.reduceGT, Int.reduceGE, Int.reduceNeg]
theorem join_loop1 {sep : Str} {x : AV} {l : List Str} {p : Nat} {H0 : Hp} (hx : Rw H0 1 x (strs l)) (hl : l.length ≤ 1000) : ∀ (r : List Str) (i : Nat) (H : Hp) (sl : AV) (acc : Str), i ≤ l.length → l.drop i = r → Rw H 1 x (strs l) → Bu H p sl acc → (∀ j ∈ rid x, j ≠ p ∧ j ∉ rid sl) → acc.length + (joT sep r).length ≤ 16777216 →
    ∃ sl' H', (∀ k : K.Fn 1, l_strings_Join1 JN GO cK k (.str sep) (.ptr p 0) x (.int .i64 (l.length : Nat)) (.int .i64 (i : Nat)) H = k (.ptr p 0) H') ∧ Bu H' p sl' (acc ++ joT sep r) ∧ Out (p :: rid sl) H H' ∧ ∀ j ∈ rid sl', j ∈ rid sl ∨ H.next ≤ j
  | [], i, H, sl, acc, hi, h, hxx, hB, hd, hlen => by
    obtain rfl := drop_nil hi h
    refine ⟨sl, H, fun k => ?_, by simpa [joT] using hB, Out.refl _ _, fun j hj => .inl hj⟩
    rw [ql_strings_Join1]
    simp only [bl_strings_Join1, lt_f, k_s, k_x, Int.reduceBEq, Int.reduceBNe, Int.reduceLT, Int.reduceLE, Int.reduceGT, Int.reduceGE, Int.reduceNeg]
  | a :: r, i, H, sl, acc, hi, h, hxx, hB, hd, hlen => by
    obtain ⟨h1, h2, h3⟩ := hd_drop h
    obtain ⟨q, q1, q2⟩ := hxx.ia1 (strs_get h2) .i64
    have e := wrap_s h1 (by omega)
    simp only [joT, List.length_append] at hlen
    obtain ⟨sl1, H1, a1, a2, a3, a4⟩ := write_c (s := sep) hB (by omega)
    obtain ⟨sl2, H2, b1, b2, b3, b4⟩ := write_c (s := a) a2 (by rw [List.length_append]; omega)
    have hlt := hxx.lt
    have hd1 : ∀ j ∈ rid x, j ≠ p ∧ j ∉ rid sl1 := fun j hj => ⟨(hd j hj).1, fun q => (a4 j q).elim (hd j hj).2 fun q => by have := hlt j hj; omega⟩
    have hn1 := a3.nx
    have hd2 : ∀ j ∈ rid x, j ≠ p ∧ j ∉ rid sl2 := fun j hj => ⟨(hd j hj).1, fun q => (b4 j q).elim (hd1 j hj).2 fun q => by have := hlt j hj; omega⟩
    have hx1 := hxx.out a3 fun j hj => by rw [List.mem_cons, not_or]; exact hd j hj
    have hx2 := hx1.out b3 fun j hj => by rw [List.mem_cons, not_or]; exact hd1 j hj
    obtain ⟨sl', H', i1, i2, i3, i4⟩ := join_loop1 (sep := sep) hx hl r (i + 1) H2 sl2 (acc ++ sep ++ a) h1 h3 hx2 b2 hd2 (by simp only [List.length_append]; omega)
    have o2 : Out (p :: rid sl) H H2 := a3.then b3 fun j hj => by
      rcases List.mem_cons.1 hj with rfl | hj
      · exact .inl (.head _)
      · exact (a4 j hj).imp (fun q => .tail _ q) id
    have n2 : ∀ j ∈ rid sl2, j ∈ rid sl ∨ H.next ≤ j := fun j hj => (b4 j hj).elim (fun q => a4 j q) fun q => .inr (by omega)
    refine ⟨sl', H', fun k => ?_, by rw [joT]; simpa [List.append_assoc] using i2, o2.then i3 fun j hj => ?_, fun j hj => (i4 j hj).elim (n2 j) fun q => .inr (by have := o2.nx; omega)⟩
    · rw [ql_strings_Join1]
      simp only [bl_strings_Join1, lt_t h1, q1, q2, a1, b1, e, i1, k_s, k_x, Int.reduceBEq, Int.reduceBNe, Int.reduceLT, Int.reduceLE, Int.reduceGT, Int.reduceGE, Int.reduceNeg]
    · rcases List.mem_cons.1 hj with rfl | hj
      · exact .inl (.head _)
      · exact (n2 j hj).imp (fun q => .tail _ q) id
theorem joiS_len (sep : Str) (l : List Str) (h : 0 < l.length) : (joiS sep l).length = sep.length * (l.length - 1) + sumL l := by
  cases l with
  | nil => simp at h
  | cons a l => simp only [joiS, List.length_append, joT_len, List.length_cons, sumL, List.map_cons, List.sum_cons, Nat.add_sub_cancel]; omega
theorem join_c {sep : Str} (hsep : sep.length = 1) {x : AV} {l : List Str} {H : Hp} (hx : Rw H 1 x (strs l)) (hl : l.length ≤ 200) (hb : ∀ s ∈ l, s.length ≤ 100000) (hsum : sumL l ≤ 900000) (hby : ∀ s ∈ sep :: l, ∀ b ∈ s, b < 256) :
    ∃ H', cK (.func (.func 31) [] []) [x, .str sep] H = some (.str (joiS sep l), H') ∧ Out [] H H' := by
  have hxl := hx.len1
  rw [strs_len] at hxl
  match l, hx, hl, hb, hsum, hby, hxl with
  | [], hx, hl, hb, hsum, hby, hxl =>
    refine ⟨H, c_strings_Join ?_, Out.refl _ _⟩
    unfold s_strings_Join
    simp only [List.length_nil, Int.natCast_zero] at hxl
    simp only [hxl, joiS, k_s, k_x, Int.reduceBEq, Int.reduceBNe, Int.reduceLT, Int.reduceLE, Int.reduceGT, Int.reduceGE, Int.reduceNeg]
  | [a], hx, hl, hb, hsum, hby, hxl =>
    obtain ⟨q, q1, q2⟩ := hx.ia1 (i := 0) (v := .str a) rfl .i64
    refine ⟨H, c_strings_Join ?_, Out.refl _ _⟩
    unfold s_strings_Join
    simp only [List.length_cons, List.length_nil, Nat.zero_add, Int.natCast_one] at hxl
    rw [show (((0 : Nat) : Int)) = 0 from rfl] at q1
    simp only [hxl, q1, q2, joiS, joT, List.append_nil, k_s, k_x, Int.reduceBEq, Int.reduceBNe, Int.reduceLT, Int.reduceLE, Int.reduceGT, Int.reduceGE, Int.reduceNeg]
  | a :: b :: l, hx, hl, hb, hsum, hby, hxl =>
    generalize hm : a :: b :: l = L at *
    have hL2 : 2 ≤ L.length := by rw [← hm]; simp
    have hLa : L[0]? = some a := by rw [← hm]; rfl
    obtain ⟨q, q1, q2⟩ := hx.ia1 (strs_get hLa) .i64
    rw [show (((0 : Nat) : Int)) = 0 from rfl] at q1
    have d1 : (((L.length : Nat) : Int) == 0) = false := beq_false_of_ne (by omega)
    have d2 : (((L.length : Nat) : Int) == 1) = false := beq_false_of_ne (by omega)
    have e1 : IntKind.wrap .i64 (((L.length : Nat) : Int) - 1) = ((L.length - 1 : Nat) : Int) := by rw [wrap_i64 (by omega) (by omega)]; omega
    have e2 : iquo (.int .i64 9223372036854775807) (.int .i64 ((L.length - 1 : Nat) : Int)) = some (.int .i64 (9223372036854775807 / ((L.length - 1 : Nat) : Int))) := by
      rw [iquo_i _ _ _ (by omega), Int.tdiv_eq_ediv_of_nonneg (by omega)]
      congr 2
      rw [wrap_i64]
      · have : 0 ≤ 9223372036854775807 / ((L.length - 1 : Nat) : Int) := Int.ediv_nonneg (by omega) (by omega)
        omega
      · exact Int.le_trans (Int.ediv_le_self _ (by omega)) (Int.le_refl _)
    have hq : (200 : Int) ≤ 9223372036854775807 / ((L.length - 1 : Nat) : Int) := by
      rw [Int.le_ediv_iff_mul_le (by omega)]
      omega
    have d3 : decide (9223372036854775807 / ((L.length - 1 : Nat) : Int) ≤ ((1 : Nat) : Int)) = false := decide_eq_false (by omega)
    have e3 : IntKind.wrap .i64 (((1 : Nat) : Int) * ((L.length - 1 : Nat) : Int)) = ((L.length - 1 : Nat) : Int) := by rw [wrap_i64 (by omega) (by omega)]; omega
    have e4 : IntKind.wrap .i64 (0 + ((L.length - 1 : Nat) : Int)) = ((L.length - 1 : Nat) : Int) := by rw [wrap_i64 (by omega) (by omega)]; omega
    have i1 := fun k => join_loop hx (by omega) hb k x (.str sep) L 0 (L.length - 1) (Nat.zero_le _) List.drop_zero (by omega)
    rw [show (((0 : Nat) : Int)) = 0 from rfl] at i1
    have hnl : newCells H [.ptr0, .slice0] 112 0 = some (H.next, al H [.ptr0, .slice0] 112 0) := newCells_al (by simp)
    have ho := al_out H [.ptr0, .slice0] 112 0
    obtain ⟨sl, H1, g1, g2, g3, g4⟩ := grow_c (n := L.length - 1 + sumL L) (by omega) (by omega) (al_cs H [.ptr0, .slice0] 112 0)
    have hlt := hx.lt
    have hx1 := (hx.out0 ho).out g3 fun j hj => by rw [List.mem_singleton]; have := hlt j hj; omega
    obtain ⟨q', q1', q2'⟩ := hx1.ia1 (strs_get hLa) .i64
    rw [show (((0 : Nat) : Int)) = 0 from rfl] at q1'
    have hal : a.length ≤ sumL L := by rw [← hm]; simp [sumL]
    obtain ⟨sl2, H2, b1, b2, b3, b4⟩ := write_c (s := a) g2 (by simp; omega)
    rw [List.nil_append] at b2
    have hx2 := hx1.out b3 fun j hj => by
      rw [List.mem_cons, not_or]
      exact ⟨by have := hlt j hj; omega, fun q => by have := g4 j q; have := hlt j hj; rw [al_nx] at *; omega⟩
    have hs2 := sll_rw hx2 (n := L.length) (by rw [strs_len, Nat.mul_one]) (by decide) (a := 1) (b := L.length) (lo := some (.int .i64 1)) (hi := none) (by omega) (Nat.le_refl _) (Bd.yes .i64 1 0) (Bd.no _)
    obtain ⟨x', x1, x2, x3⟩ := hs2
    have hdr : (((strs L).drop (1 * 1)).take ((L.length - 1) * 1)) = strs (b :: l) := by rw [← hm, Nat.mul_one, Nat.mul_one]; exact List.take_of_length_le (by simp [strs])
    rw [hdr] at x2
    have hx'l := x2.len1
    rw [strs_len] at hx'l
    have hbl : (b :: l).length ≤ 1000 := by rw [← hm] at hl; simp only [List.length_cons] at *; omega
    have hn1 := g3.nx
    rw [al_nx] at hn1
    have hjl : sep.length * (b :: l).length + sumL (b :: l) ≤ 1000000 := by
      rw [hsep, Nat.one_mul]
      rw [← hm] at hsum hl
      simp only [sumL, List.map_cons, List.sum_cons, List.length_cons] at *
      omega
    obtain ⟨sl3, H3, c1, c2, c3, c4⟩ := join_loop1 (sep := sep) x2 hbl (b :: l) 0 H2 sl2 a (Nat.zero_le _) List.drop_zero x2 b2 (fun j hj => by
      have hj := hlt j (x3 j hj)
      exact ⟨by omega, fun q => (b4 j q).elim (fun q => by have := g4 j q; rw [al_nx] at this; omega) fun q => by omega⟩) (by rw [joT_len]; omega)
    have hres : a ++ joT sep (b :: l) = joiS sep L := by rw [← hm]; rfl
    rw [hres] at c2
    have hrl := joiS_len sep L (by omega)
    rw [hsep, Nat.one_mul] at hrl
    have hbytes : ∀ c ∈ joiS sep L, c < 256 := by
      have key : ∀ l : List Str, (∀ s ∈ l, ∀ b ∈ s, b < 256) → ∀ c ∈ joT sep l, c < 256 := by
        intro l
        induction l with
        | nil => intro _ c hc; cases hc
        | cons s l ih =>
          intro h c hc
          simp only [joT, List.mem_append] at hc
          rcases hc with (hc | hc) | hc
          · exact hby sep (.head _) c hc
          · exact h s (.head _) c hc
          · exact ih (fun s hs => h s (.tail _ hs)) c hc
      intro c hc
      rw [← hres, List.mem_append] at hc
      have hm2 : ∀ s ∈ a :: b :: l, ∀ b ∈ s, b < 256 := fun s hs => hby s (.tail _ (by rw [← hm]; exact hs))
      rcases hc with hc | hc
      · exact hm2 a (.head _) c hc
      · exact key _ (fun s hs => hm2 s (.tail _ hs)) c hc
    obtain ⟨H4, s1, s2⟩ := string_c c2 (by omega) (by omega) hbytes
    have n2 := b3.nx
    have n3 := c3.nx
    have hr2 : ∀ j ∈ rid sl2, H.next ≤ j := fun j hj => (b4 j hj).elim (fun q => by have := g4 j q; rw [al_nx] at this; omega) fun q => by omega
    have hr3 : ∀ j ∈ rid sl3, H.next ≤ j := fun j hj => (c4 j hj).elim (hr2 j) fun q => by omega
    have o1 : Out [] H H1 := ho.then g3 fun j hj => by rw [List.mem_singleton] at hj; exact .inr (by omega)
    have o2 : Out [] H H2 := o1.then b3 fun j hj => by
      rcases List.mem_cons.1 hj with rfl | hj
      · exact .inr (by omega)
      · have := g4 j hj; rw [al_nx] at this; exact .inr (by omega)
    have o3 : Out [] H H3 := o2.then c3 fun j hj => by
      rcases List.mem_cons.1 hj with rfl | hj
      · exact .inr (by omega)
      · exact .inr (hr2 j hj)
    refine ⟨H4, c_strings_Join ?_, o3.then s2 fun j hj => .inr (hr3 j hj)⟩
    unfold s_strings_Join
    have e5 : ((L.length - 1 + sumL L : Nat) : Int) = ((L.length - 1 + sumL L : Nat) : Int) := rfl
    rw [show (((0 : Nat) : Int)) = 0 from rfl] at c1
    have d4 : decide ((0 : Int) < ((1 : Nat) : Int)) = true := rfl
    simp only [hxl, d1, d2, hsep, d4, e1, e2, d3, e3, e4, i1, hnl, g1, q1', q2', b1, x1, hx'l, c1, s1, ge_iff_le, k_s, k_x, Int.reduceBEq, Int.reduceBNe, Int.reduceLT, Int.reduceLE, Int.reduceGT, Int.reduceGE, Int.reduceNeg]
end Go.Proofs.YthljbjokonglhaaGreatDoor.DfK
