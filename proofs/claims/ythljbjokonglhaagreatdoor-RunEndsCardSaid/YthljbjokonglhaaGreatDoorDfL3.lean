/- strconv.Itoa, strconv.Atoi, strings.Trim, strings.Join as contracts over the symbolic heap. Conditions: as each states them; the listed variables hold what the row says. -/
import Derived.Test.YthljbjokonglhaaGreatDoorDfL2
import Derived.Lib.ItoaNum
namespace Go.Proofs.YthljbjokonglhaaGreatDoor.DfK
open Go Am Am.K DfEnv DfM LibP
set_option linter.unusedVariables false
set_option linter.unusedSimpArgs false
set_option maxRecDepth 10000
/-- what is read of the listed variables -/
structure Gl (H : Hp) : Prop where
  pow : ∀ i : Nat, i < 20 → cellAt H 3 i = some (.int .u64 ((10 ^ i : Nat) : Int))
  err : ErrA H
  nx : 11 ≤ H.next
theorem hasT_cell {H : Hp} {L : List (Nat × List AV)} (h : hasT H L) {g : Nat} {l : List AV} (hm : (g, l) ∈ L) {k : Nat} {v : AV} (hk : l[k]? = some v) : cellAt H g k = some v := by
  obtain ⟨el, h⟩ := h
  have h1 := h g l hm
  have hkl := (List.getElem?_eq_some_iff.1 hk).1
  unfold cellAt
  rw [h1]
  have hb : (Nat.ble 0 k && Nat.blt k l.length) = true := by
    rw [Bool.and_eq_true, Nat.ble_eq, Nat.blt_eq]; omega
  simp only [hb, cond_true]
  rw [get_puts_k, if_pos (by omega)]
  exact hk
theorem pow_at : ∀ i : Fin 20, (pow10.map (AV.int .u64))[i.val]? = some (.int .u64 ((10 ^ i.val : Nat) : Int)) := by
  intro i
  match i with
  | ⟨0, _⟩ => rfl
  | ⟨1, _⟩ => rfl
  | ⟨2, _⟩ => rfl
  | ⟨3, _⟩ => rfl
  | ⟨4, _⟩ => rfl
  | ⟨5, _⟩ => rfl
  | ⟨6, _⟩ => rfl
  | ⟨7, _⟩ => rfl
  | ⟨8, _⟩ => rfl
  | ⟨9, _⟩ => rfl
  | ⟨10, _⟩ => rfl
  | ⟨11, _⟩ => rfl
  | ⟨12, _⟩ => rfl
  | ⟨13, _⟩ => rfl
  | ⟨14, _⟩ => rfl
  | ⟨15, _⟩ => rfl
  | ⟨16, _⟩ => rfl
  | ⟨17, _⟩ => rfl
  | ⟨18, _⟩ => rfl
  | ⟨19, _⟩ => rfl
  | ⟨n + 20, h⟩ => omega
theorem Gl.of {H : Hp} (h : hasT H begin0) (hn : 11 ≤ H.next) : Gl H where
  pow := fun i hi => hasT_cell h (l := pow10.map (AV.int .u64)) (by unfold begin0; simp) (pow_at ⟨i, hi⟩)
  err := ⟨⟨_, _, hasT_cell h (g := 4) (k := 0) (by unfold begin0; simp; rfl) rfl⟩, ⟨_, _, hasT_cell h (g := 5) (k := 0) (by unfold begin0; simp; rfl) rfl⟩⟩
  nx := hn
theorem Gl.out {H H' : Hp} {S : List Nat} (h : Gl H) (k : Out S H H') (hs : ∀ j ∈ S, 11 ≤ j) : Gl H' where
  pow := fun i hi => by
    rw [k.cellAt (by have := h.nx; omega) (fun q => by have := hs _ q; omega)]
    exact h.pow i hi
  err := by
    have hn := h.nx
    refine ⟨?_, ?_⟩
    · obtain ⟨t, p, q⟩ := h.err.syn
      exact ⟨t, p, by rw [k.cellAt (by omega) (fun q => by have := hs _ q; omega)]; exact q⟩
    · obtain ⟨t, p, q⟩ := h.err.rng
      exact ⟨t, p, by rw [k.cellAt (by omega) (fun q => by have := hs _ q; omega)]; exact q⟩
  nx := Nat.le_trans h.nx k.1
theorem Gl.out0 {H H' : Hp} (h : Gl H) (k : Out [] H H') : Gl H' := h.out k fun j hj => by cases hj
/-! strings.Trim -/
theorem trim_c (s c : List Nat) (H : Hp) (hs : s.length ≤ 4294967296) (hc : lowC c = true) (hcl : c.length ≤ 4294967280) : cK (.func (.func 61) [] []) [.str s, .str c] H = some (.str (trimN s c), H) := by
  refine ck_prim (p := trimP) (by kernel_rfl) ?_
  have h2 : F.bothB (lowC c) (F.bothB (Nat.ble (F.lenL s) 4294967296) (Nat.ble (F.lenL c) 4294967280)) = true := by
    rw [F.bothB_eq, F.bothB_eq, F.lenL_eq, F.lenL_eq, hc]
    simp only [Bool.true_and, Bool.and_eq_true, Nat.ble_eq]
    exact ⟨hs, hcl⟩
  show trim2 H s c = _
  unfold trim2
  rw [h2]
/-! strconv.Itoa -/
/-- a number's decimals -/
def dec (n : Int) : Str := (Lib.itoa n).map (·.toNat)
theorem dig1 : ∀ p : Fin 10, (([48, 49, 50, 51, 52, 53, 54, 55, 56, 57, 97, 98, 99, 100, 101, 102, 103, 104, 105, 106, 107, 108, 109, 110, 111, 112, 113, 114, 115, 116, 117, 118, 119, 120, 121, 122] : List Nat).drop p.val).take 1 = [48 + p.val] := by decide +kernel
abbrev sm : List Nat := [48, 48, 48, 49, 48, 50, 48, 51, 48, 52, 48, 53, 48, 54, 48, 55, 48, 56, 48, 57, 49, 48, 49, 49, 49, 50, 49, 51, 49, 52, 49, 53, 49, 54, 49, 55, 49, 56, 49, 57, 50, 48, 50, 49, 50, 50, 50, 51, 50, 52, 50, 53, 50, 54, 50, 55, 50, 56, 50, 57, 51, 48, 51, 49, 51, 50, 51, 51, 51, 52, 51, 53, 51, 54, 51, 55, 51, 56, 51, 57, 52, 48, 52, 49, 52, 50, 52, 51, 52, 52, 52, 53, 52, 54, 52, 55, 52, 56, 52, 57, 53, 48, 53, 49, 53, 50, 53, 51, 53, 52, 53, 53, 53, 54, 53, 55, 53, 56, 53, 57, 54, 48, 54, 49, 54, 50, 54, 51, 54, 52, 54, 53, 54, 54, 54, 55, 54, 56, 54, 57, 55, 48, 55, 49, 55, 50, 55, 51, 55, 52, 55, 53, 55, 54, 55, 55, 55, 56, 55, 57, 56, 48, 56, 49, 56, 50, 56, 51, 56, 52, 56, 53, 56, 54, 56, 55, 56, 56, 56, 57, 57, 48, 57, 49, 57, 50, 57, 51, 57, 52, 57, 53, 57, 54, 57, 55, 57, 56, 57, 57]
theorem dig2 : ∀ p : Fin 100, (sm.drop (p.val * 2)).take 2 = [48 + p.val / 10, 48 + p.val % 10] := by decide +kernel
theorem u8_nat {n : Nat} (h : n < 256) : (UInt8.ofNat n).toNat = n := by rw [UInt8.toNat_ofNat', Nat.mod_eq_of_lt h]
theorem dec1 {n : Nat} (h : n < 10) : dec (n : Int) = [48 + n] := by
  unfold dec Lib.itoa
  rw [if_neg (by omega), Int.toNat_natCast, Lib.decDigits_one h]
  simp only [List.map_cons, List.map_nil]
  rw [u8_nat (by omega)]
theorem dec2 {n : Nat} (h1 : ¬ n < 10) (h2 : n < 100) : dec (n : Int) = [48 + n / 10, 48 + n % 10] := by
  unfold dec Lib.itoa
  rw [if_neg (by omega), Int.toNat_natCast, Lib.decDigits_two h1 h2]
  simp only [List.map_cons, List.map_nil]
  rw [u8_nat (by omega), u8_nat (by omega)]
theorem small_c {n : Nat} (h : n < 100) (H : Hp) : cK (.func (.func 121) [] []) [.int .i64 n] H = some (.str (dec n), H) := by
  refine c_internal_strconv_small ?_
  unfold s_internal_strconv_small
  by_cases h1 : n < 10
  · have d : decide ((n : Int) < 10) = true := decide_eq_true (by omega)
    have e : IntKind.wrap .i64 ((n : Int) + 1) = ((n + 1 : Nat) : Int) := by rw [wrap_i64 (by omega) (by omega)]; rfl
    have q := sls_ft (s := [48, 49, 50, 51, 52, 53, 54, 55, 56, 57, 97, 98, 99, 100, 101, 102, 103, 104, 105, 106, 107, 108, 109, 110, 111, 112, 113, 114, 115, 116, 117, 118, 119, 120, 121, 122]) (a := n) (b := n + 1) .i64 .i64 (by omega) (by simp only [List.length_cons, List.length_nil]; omega)
    rw [Nat.add_sub_cancel_left, dig1 ⟨n, h1⟩] at q
    simp only [d, e, q, dec1 h1, k_s, k_x, Int.reduceBEq, Int.reduceBNe, Int.reduceLT, Int.reduceLE, Int.reduceGT, Int.reduceGE, Int.reduceNeg]
  · have d : decide ((n : Int) < 10) = false := decide_eq_false (by omega)
    have e1 : IntKind.wrap .i64 ((n : Int) * 2) = ((n * 2 : Nat) : Int) := by rw [wrap_i64 (by omega) (by omega)]; omega
    have e2 : IntKind.wrap .i64 (((n * 2 : Nat) : Int) + 2) = ((n * 2 + 2 : Nat) : Int) := by rw [wrap_i64 (by omega) (by omega)]; rfl
    have q := sls_ft (s := sm) (a := n * 2) (b := n * 2 + 2) .i64 .i64 (by omega) (by simp only [List.length_cons, List.length_nil]; omega)
    rw [Nat.add_sub_cancel_left, dig2 ⟨n, h⟩] at q
    simp only [d, e1, e2, q, dec2 h1 h, k_s, k_x, Int.reduceBEq, Int.reduceBNe, Int.reduceLT, Int.reduceLE, Int.reduceGT, Int.reduceGE, Int.reduceNeg]
theorem numDigits_c {u : Nat} (h1 : 1 ≤ u) (h2 : u < 18446744073709551616) {H : Hp} (hg : Gl H) : cK (.func (.func 122) [] []) [.int .u64 u] H = some (.int .i64 (Lib.nDigits u : Nat), H) := by
  refine c_internal_strconv_numDigits ?_
  unfold s_internal_strconv_numDigits
  have hl : cK (.func (.func 135) [] []) [.int .u64 u] H = some (.int .i64 (Lib.bitLen u : Nat), H) := by
    refine ck_prim (p := len64P) (by kernel_rfl) ?_
    unfold len64P
    simp only
    rw [if_pos ⟨by omega, by omega⟩, Int.toNat_natCast]
  obtain ⟨n1, n2⟩ := Lib.numDigits_eq u h1 h2
  have hb : Lib.bitLen u ≤ 100 := by
    have : Lib.l10 (Lib.bitLen u) ≤ 19 := n2
    unfold Lib.l10 at this
    omega
  have hp : cK (.func (.func 145) [] []) [.int .i64 (Lib.bitLen u : Nat)] H = some (.int .i64 (Lib.l10 (Lib.bitLen u) : Nat), H) := by
    refine c_internal_strconv_log10Pow2 ?_
    unfold s_internal_strconv_log10Pow2
    have e : IntKind.wrap .i64 ((Lib.bitLen u : Int) * 78913) = ((Lib.bitLen u * 78913 : Nat) : Int) := by rw [wrap_i64 (by omega) (by omega)]; omega
    have e2 : ishr (.int .i64 ((Lib.bitLen u * 78913 : Nat) : Int)) (.int .u64 18) = some (.int .i64 ((Lib.l10 (Lib.bitLen u) : Nat) : Int)) := by
      have := ishr_n (k := .i64) (j := .u64) (a := Lib.bitLen u * 78913) (b := 18)
      rw [show ((18 : Nat) : Int) = 18 from rfl] at this
      rw [this]
      rfl
    simp only [e, e2, k_s, k_x, Int.reduceBEq, Int.reduceBNe, Int.reduceLT, Int.reduceLE, Int.reduceGT, Int.reduceGE, Int.reduceNeg]
  generalize hq : Lib.l10 (Lib.bitLen u) = q at *
  have hia : iar 20 1 (.ptr 3 0) (.int .i64 (q : Nat)) = some (.ptr 3 q) := by
    unfold iar
    simp only
    rw [if_pos (by omega), Int.toNat_natCast, Nat.mul_one, Nat.zero_add]
  have hc := hg.pow q (by omega)
  by_cases hle : 10 ^ q ≤ u
  · rw [if_pos hle] at n1
    have d : decide (((10 ^ q : Nat) : Int) ≤ (u : Int)) = true := decide_eq_true (by exact Int.ofNat_le.2 hle)
    have hbl : cK (.func (.func 146) [] []) [.bool true] H = some (.int .i64 1, H) := by
      refine c_internal_strconv_bool2_int_ ?_
      unfold s_internal_strconv_bool2_int_
      simp only [k_s, k_x, Int.reduceBEq, Int.reduceBNe, Int.reduceLT, Int.reduceLE, Int.reduceGT, Int.reduceGE, Int.reduceNeg]
    have e : IntKind.wrap .i64 ((q : Int) + 1) = ((Lib.nDigits u : Nat) : Int) := by rw [wrap_i64 (by omega) (by omega)]; omega
    simp only [hl, hp, hia, ld_p, hc, ige_i, d, hbl, e, k_s, k_x, Int.reduceBEq, Int.reduceBNe, Int.reduceLT, Int.reduceLE, Int.reduceGT, Int.reduceGE, Int.reduceNeg]
  · rw [if_neg hle] at n1
    have d : decide (((10 ^ q : Nat) : Int) ≤ (u : Int)) = false := decide_eq_false (by intro x; exact hle (Int.ofNat_le.1 x))
    have hbl : cK (.func (.func 146) [] []) [.bool false] H = some (.int .i64 0, H) := by
      refine c_internal_strconv_bool2_int_ ?_
      unfold s_internal_strconv_bool2_int_
      simp only [k_s, k_x, Int.reduceBEq, Int.reduceBNe, Int.reduceLT, Int.reduceLE, Int.reduceGT, Int.reduceGE, Int.reduceNeg]
    have e : IntKind.wrap .i64 ((q : Int) + 0) = ((Lib.nDigits u : Nat) : Int) := by rw [wrap_i64 (by omega) (by omega)]; omega
    simp only [hl, hp, hia, ld_p, hc, ige_i, d, hbl, e, k_s, k_x, Int.reduceBEq, Int.reduceBNe, Int.reduceLT, Int.reduceLE, Int.reduceGT, Int.reduceGE, Int.reduceNeg]
/-- the digits put into a row of bytes -/
theorem fb10_c {H : Hp} {i off n u cap : Nat} {ex : Bool} {l : List AV} {el fl : Nat} (h : Cs H i l el fl) (hf : fl ≤ 1) (hn0 : 0 < n) (ho : off + n ≤ l.length) (hn : n ≤ 100) (hu : u < 18446744073709551616) (hup : u < 10 ^ n) (hb : ∀ v ∈ l, ∃ b : Nat, b < 256 ∧ v = .int .u8 b) :
    ∃ H', cK (.func (.func 123) [] []) [.slice i off n cap ex 1, .int .u64 u] H = some (.tuple [], H') ∧ Cs H' i (setR l off (digs u n)) el fl ∧ Out [i] H H' := by
  obtain ⟨hi, c, hc, hg⟩ := h
  have hdl : (digs u n).length = n := by simp [digs]
  have hca := Cs.cellsAt ⟨hi, c, hc, hg⟩ n off ho
  refine ⟨{ H with h := H.h.upd i (.cells (c.puts off (digs u n)) 0 l.length el fl) }, ck_prim (p := fb10P) (by kernel_rfl) ?_, ⟨hi, c.puts off (digs u n), ?_, ?_⟩, ⟨Nat.le_refl _, fun j hj hn' => ?_⟩⟩
  · unfold fb10P
    simp only
    rw [if_pos ⟨trivial, hn0, by omega, by omega, by omega, by rw [Int.toNat_natCast]; exact hup⟩, hc, Option.bind_some, Int.toNat_natCast]
    unfold fb2
    simp only
    rw [if_pos ⟨by omega, ho, hf, _, hca, fun v hv => hb v (List.mem_of_mem_drop (List.mem_of_mem_take hv))⟩]
  · show (H.h.upd i _).get i = _
    rw [Tr.upd, Tr.get_putP, if_pos rfl, setR_len]
  · intro k v hk
    rw [setR_get _ _ _ _ (by rw [hdl]; exact ho)] at hk
    rw [Tr.get_putsA]
    split
    · rename_i hin
      rw [if_pos hin] at hk
      exact hk
    · rename_i hin
      rw [if_neg hin] at hk
      exact hg k v hk
  · show (H.h.upd i _).get j = _
    rw [Tr.upd, Tr.get_putP, if_neg (by simpa using hn')]
theorem digs_dec (u : Nat) : digs u (Lib.nDigits u) = bs ((Lib.decDigits u).map (·.toNat)) := by
  unfold digs bs
  rw [Lib.decDigits_eq, List.map_map, List.map_map]
  rfl
theorem sliceArr {H : Hp} {i a b : Nat} {l : List AV} {el fl : Nat} (h : Cs H i l el fl) (hl : l.length = 24) (hab : a ≤ b) (hb : b ≤ 24) {lo : Option AV} (hlo : Bd lo a 0) : sliceA P 161 (.ptr i 0) lo (some (.int .i64 b)) none H = some (.slice i a (b - a) (24 - a) true 1) := by
  have hu : P.underlying 161 = some (.array 24 5) := Tryz.underlying161
  have hs : sz P 5 = some 1 := by kernel_rfl
  have hc := h.cellAt (o := 23) (v := l[23]'(by omega)) (List.getElem?_eq_getElem (by omega))
  unfold sliceA
  simp only [hu, hs, Option.bind_eq_bind, Option.bind_some, sliceBnd_ok hab hb (Nat.le_refl _) hlo (Bd.yes .i64 b 24), Nat.mul_one, Nat.zero_add]
  have h1 : (decide (0 < 24) && (cellAt H i (0 + 24 - 1)).isSome) = true := by
    rw [show 0 + 24 - 1 = 23 by rfl, hc]; rfl
  simp [hc]
theorem dec_neg {n : Int} (h : n < 0) : dec n = 45 :: (Lib.decDigits n.natAbs).map (·.toNat) := by
  unfold dec Lib.itoa
  rw [if_pos h]; rfl
theorem dec_pos {n : Int} (h : ¬ n < 0) : dec n = (Lib.decDigits n.toNat).map (·.toNat) := by
  unfold dec Lib.itoa
  rw [if_neg h]
theorem nDigits_le {u : Nat} (h : u < 18446744073709551616) (h1 : 1 ≤ u) : Lib.nDigits u ≤ 20 := by
  obtain ⟨n1, n2⟩ := Lib.numDigits_eq u h1 h
  split at n1 <;> omega
theorem dig_lt (u : Nat) : ∀ b ∈ (Lib.decDigits u).map (·.toNat), b < 256 := by
  intro b hb
  obtain ⟨c, _, rfl⟩ := List.mem_map.1 hb
  exact c.toNat_lt
abbrev z24 : List AV := [(.int .u8 0), (.int .u8 0), (.int .u8 0), (.int .u8 0), (.int .u8 0), (.int .u8 0), (.int .u8 0), (.int .u8 0), (.int .u8 0), (.int .u8 0), (.int .u8 0), (.int .u8 0), (.int .u8 0), (.int .u8 0), (.int .u8 0), (.int .u8 0), (.int .u8 0), (.int .u8 0), (.int .u8 0), (.int .u8 0), (.int .u8 0), (.int .u8 0), (.int .u8 0), (.int .u8 0)]
/-- strconv.FormatInt at base 10 -/
theorem fmt_c {n : Int} (h0 : -9223372036854775808 ≤ n) (h1 : n ≤ 9223372036854775807) {H : Hp} (hg : Gl H) : ∃ H', cK (.func (.func 107) [] []) [.int .i64 n, .int .i64 10] H = some (.str (dec n), H') ∧ Out [] H H' := by
  by_cases hs : 0 ≤ n ∧ n < 100
  · obtain ⟨m, rfl⟩ : ∃ m : Nat, n = m := ⟨n.toNat, by omega⟩
    refine ⟨H, c_internal_strconv_FormatInt ?_, Out.refl _ _⟩
    unfold s_internal_strconv_FormatInt
    have d1 : decide ((0 : Int) ≤ (m : Int)) = true := decide_eq_true (by omega)
    have d2 : decide ((m : Int) < 100) = true := decide_eq_true hs.2
    simp only [d1, d2, small_c (show m < 100 by omega), k_s, k_x, Int.reduceBEq, Int.reduceBNe, Int.reduceLT, Int.reduceLE, Int.reduceGT, Int.reduceGE, Int.reduceNeg]
  · obtain ⟨u, hu1, hu2, hu3⟩ : ∃ u : Nat, 1 ≤ u ∧ u < 18446744073709551616 ∧ u = n.natAbs := ⟨n.natAbs, by omega, by omega, rfl⟩
    have hd := nDigits_le hu2 hu1
    have hd0 := Lib.nDigits_pos u
    have hup := Lib.lt_pow_nDigits u
    have ha : newCells H z24 161 0 = some (H.next, al H z24 161 0) := newCells_al (by simp)
    have hcs := al_cs H z24 161 0
    have hg1 := hg.out0 (al_out H z24 161 0)
    have hnd := numDigits_c hu1 hu2 hg1
    have hsl := sliceArr hcs rfl (a := 1) (b := 1 + Lib.nDigits u) (lo := some (.int .i64 1)) (by omega) (by omega) (Bd.yes .i64 1 0)
    rw [Nat.add_sub_cancel_left] at hsl
    obtain ⟨H1, f1, f2, f3⟩ := fb10_c (cap := 24 - 1) (ex := true) hcs (by decide) hd0 (off := 1) (by show 1 + _ ≤ 24; omega) (by omega) hu2 hup (by intro v hv; refine ⟨0, by omega, ?_⟩; simp at hv; exact hv)
    have hlen : (setR z24 1 (digs u (Lib.nDigits u))).length = 24 := by rw [setR_len]; rfl
    have hdl : (digs u (Lib.nDigits u)).length = Lib.nDigits u := by simp [digs]
    have e1 : IntKind.wrap .i64 (1 + (Lib.nDigits u : Int)) = ((1 + Lib.nDigits u : Nat) : Int) := by rw [wrap_i64 (by omega) (by omega)]; omega
    have ho1 : Out [] H H1 := (al_out H z24 161 0).then f3 fun j hj => by rw [List.mem_singleton] at hj; exact .inr (by omega)
    have hneg100 : (decide ((0 : Int) ≤ n) && decide (n < 100)) = false := by
      rw [Bool.and_eq_false_iff]
      by_cases q : 0 ≤ n
      · right; exact decide_eq_false (by omega)
      · left; exact decide_eq_false (by omega)
    by_cases hn : n < 0
    · have d1 : decide ((0 : Int) ≤ n) = false := decide_eq_false (by omega)
      have d2 : decide (n < 0) = true := decide_eq_true hn
      have e2 : unA .neg (.int .u64 (IntKind.wrap .u64 n)) = some (.int .u64 (u : Nat)) := by
        show some (AV.int .u64 (IntKind.wrap .u64 (0 - IntKind.wrap .u64 n))) = _
        congr 2
        simp only [IntKind.wrap, IntKind.bits, IntKind.signed]
        simp
        omega
      have hst := st1 f2 (by decide) (o := 0) (by rw [hlen]; decide) (v := .int .u8 45) rfl
      obtain ⟨H2, w1, w2, w3, w4⟩ := hst
      have hsl2 := sliceArr w2 (by rw [List.length_set]; exact hlen) (a := 0) (b := 1 + Lib.nDigits u) (lo := none) (by omega) (by omega) (Bd.no 0)
      rw [Nat.sub_zero, Nat.sub_zero] at hsl2
      have hbs : (((setR z24 1 (digs u (Lib.nDigits u))).set 0 (.int .u8 45)).take (1 + Lib.nDigits u)) = bs (dec n) := by
        rw [dec_neg hn, ← hu3]
        show _ = AV.int .u8 (45 : Nat) :: bs _
        rw [← digs_dec]
        apply List.ext_getElem?
        intro k
        rw [List.getElem?_take]
        by_cases hk : k < 1 + Lib.nDigits u
        · rw [if_pos hk, List.getElem?_set]
          by_cases hk0 : 0 = k
          · subst hk0
            rw [if_pos rfl, if_pos (by rw [hlen]; decide)]; rfl
          · obtain ⟨j, rfl⟩ : ∃ j, k = j + 1 := ⟨k - 1, by omega⟩
            rw [if_neg hk0, setR_get _ _ _ _ (by rw [hdl]; show 1 + _ ≤ 24; omega), if_pos (by rw [hdl]; omega), Nat.add_sub_cancel, List.getElem?_cons_succ]
        · rw [if_neg hk, List.getElem?_eq_none (by rw [List.length_cons, hdl]; omega)]
      have hrw : Rw H2 1 (.slice H.next 0 (1 + Lib.nDigits u) 24 true 1) (bs (dec n)) := by
        rw [← hbs]
        exact .mk (w2.ro.take _) (by rw [List.length_take, List.length_set, hlen]; omega) (by omega) rfl
      have hb2 := b2s_ok hrw (by
        rw [dec_neg hn]
        intro b hb
        rcases List.mem_cons.1 hb with rfl | hb
        · omega
        · exact dig_lt _ b hb)
      refine ⟨H2, c_internal_strconv_FormatInt ?_, ho1.then w3 fun j hj => by rw [List.mem_singleton] at hj; exact .inr (by omega)⟩
      unfold s_internal_strconv_FormatInt
      have hir : iar 24 1 (.ptr H.next 0) (.int .i64 0) = some (.ptr H.next 0) := by unfold iar; simp
      simp only [d1, ha, d2, e2, hnd, e1, hsl, f1, hir, w1, hsl2, hb2, k_s, k_x, Int.reduceBEq, Int.reduceBNe, Int.reduceLT, Int.reduceLE, Int.reduceGT, Int.reduceGE, Int.reduceNeg]
    · obtain ⟨m, rfl⟩ : ∃ m : Nat, n = m := ⟨n.toNat, by omega⟩
      have hum : u = m := by omega
      subst hum
      have d1 : decide ((0 : Int) ≤ (u : Int)) = true := decide_eq_true (by omega)
      have d1' : decide ((u : Int) < 100) = false := decide_eq_false (by omega)
      have d2 : decide ((u : Int) < 0) = false := decide_eq_false hn
      have e2 : IntKind.wrap .u64 (u : Int) = (u : Int) := wrap_u rfl (by show u < 2 ^ 64; omega)
      have hsl2 := sliceArr f2 hlen (a := 1) (b := 1 + Lib.nDigits u) (lo := some (.int .i64 1)) (by omega) (by omega) (Bd.yes .i64 1 0)
      rw [Nat.add_sub_cancel_left] at hsl2
      have hbs : (((setR z24 1 (digs u (Lib.nDigits u))).drop 1).take (Lib.nDigits u)) = bs (dec (u : Int)) := by
        rw [dec_pos hn, Int.toNat_natCast, ← digs_dec]
        apply List.ext_getElem?
        intro k
        rw [List.getElem?_take]
        by_cases hk : k < Lib.nDigits u
        · rw [if_pos hk, List.getElem?_drop, setR_get _ _ _ _ (by rw [hdl]; show 1 + _ ≤ 24; omega), if_pos (by rw [hdl]; omega), Nat.add_sub_cancel_left]
        · rw [if_neg hk, List.getElem?_eq_none (by rw [hdl]; omega)]
      have hrw : Rw H1 1 (.slice H.next 1 (Lib.nDigits u) (24 - 1) true 1) (bs (dec (u : Int))) := by
        rw [← hbs]
        exact .mk ((f2.ro.drop 1 (by rw [hlen]; decide)).take _) (by rw [List.length_take, List.length_drop, hlen]; omega) (by omega) rfl
      have hb2 := b2s_ok hrw (by rw [dec_pos hn]; exact dig_lt _)
      refine ⟨H1, c_internal_strconv_FormatInt ?_, ho1⟩
      unfold s_internal_strconv_FormatInt
      simp only [d1, d1', ha, d2, e2, hnd, e1, hsl, f1, hsl2, hb2, k_s, k_x, Int.reduceBEq, Int.reduceBNe, Int.reduceLT, Int.reduceLE, Int.reduceGT, Int.reduceGE, Int.reduceNeg]
theorem itoa_c {n : Int} (h0 : -9223372036854775808 ≤ n) (h1 : n ≤ 9223372036854775807) {H : Hp} (hg : Gl H) : ∃ H', cK (.func (.func 66) [] []) [.int .i64 n] H = some (.str (dec n), H') ∧ Out [] H H' := by
  obtain ⟨H', h2, h3⟩ := fmt_c h0 h1 hg
  refine ⟨H', c_strconv_Itoa ?_, h3⟩
  unfold s_strconv_Itoa
  have : cK (.func (.func 95) [] []) [.int .i64 n] H = some (.str (dec n), H') := by
    refine c_internal_strconv_Itoa ?_
    unfold s_internal_strconv_Itoa
    simp only [h2, k_s, k_x, Int.reduceBEq, Int.reduceBNe, Int.reduceLT, Int.reduceLE, Int.reduceGT, Int.reduceGE, Int.reduceNeg]
  simp only [this, k_s, k_x, Int.reduceBEq, Int.reduceBNe, Int.reduceLT, Int.reduceLE, Int.reduceGT, Int.reduceGE, Int.reduceNeg]
theorem atoi_c {s : Str} (hs : s.length ≤ 281474976710656) {H : Hp} (hg : Gl H) : cK (.func (.func 106) [] []) [.str s] H = some (atoiR s, H) := by
  refine ck_prim (p := atoiP) (by kernel_rfl) ?_
  unfold atoiP
  simp only
  rw [if_pos ⟨hg.err, hs⟩]
end Go.Proofs.YthljbjokonglhaaGreatDoor.DfK
