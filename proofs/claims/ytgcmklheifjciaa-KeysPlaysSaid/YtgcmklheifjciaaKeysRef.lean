/- The walks of the reference of chapter 17: NewKeys, Get, Put, over lists. -/
import Derived.Test.YtgcmklheifjciaaKeysAll
set_option linter.unusedVariables false
set_option linter.unusedSimpArgs false
namespace Go.Proofs.Ytgcmklheifjciaa.KyW
open Go.RowKit Hp

theorem info_rentry : (Try.prog.info? 50).map (fun i => (i.zero, i.size, i.bytes)) = some (some (.agg #[.string ⟨#[]⟩, .string ⟨#[]⟩, .int .i64 0]), 3, 40) := by kernel_rfl

structure RR (w : World) (b most : Nat) (L : List (Ky.K × Int)) (sl : Value) : Prop where
  c0 : w.cell? ⟨b, 0, none⟩ = some (.int .i64 most)
  c1 : w.cell? ⟨b, 1, none⟩ = some sl
  f1 : w.frozen? ⟨b, 1, none⟩ = false
  rd : RdS w 3 sl L.length (L.flatMap ent)
  le : L.length ≤ most
  m1 : 1 ≤ most
  m2 : most ≤ 128

theorem RR.only {S : Nat → Prop} {w w' : World} {b most : Nat} {L : List (Ky.K × Int)} {sl : Value} (h : RR w b most L sl) (ho : Only S w w') (h1 : ¬ S b) (h3 : ∀ g, sl.ownBlock = some g → ¬ S g) : RR w' b most L sl :=
  ⟨ho.cellv h.c0 h1, ho.cellv h.c1 h1, (ho.frozen (p := ⟨b, 1, none⟩) (World.block_lt_of_cell? w _ h.c1) h1).trans h.f1, h.rd.only ho h3, h.le, h.m1, h.m2⟩

theorem rnew_any (w : World) (n : Int) :
    Calls Try.prog 14 #[.int .i64 n] w fun e w' => e = .returned (.pointer (some ⟨w.heap.size, 0, none⟩)) ∧ RR w' w.heap.size (min (max n 1) 128).toNat [] (.slice none 0 0) ∧ Only (fun _ => False) w w' := by
  have hfin : ∀ x : Int, x = min (max n 1) 128 → RR (w.alloc (.cells #[.int .i64 x, .slice none 0 0] 48)) w.heap.size (min (max n 1) 128).toNat [] (.slice none 0 0) := by
    intro x hx
    refine ⟨?_, ?_, ?_, RdS.nil _ _, by simp, by omega, by omega⟩
    · rw [World.cell?_alloc_at _ _ _ _ (by simp)]; simp; omega
    · rw [World.cell?_alloc_at _ _ _ _ (by simp)]; simp
    · rw [World.frozen?_alloc_at _ _ _ _ (by simp)]
  have hfin' := Lib.hid hfin
  clear hfin
  by_cases h1 : n < 1
  · go_enter Try.func14, Try.ntmps14
    go_wp2
    go_ret
    exact ⟨rfl, hfin'.out _ (by omega), (Only.refl _ w).alloc _⟩
  · by_cases h2 : 128 < n
    all_goals
      go_enter Try.func14, Try.ntmps14
      go_wp2
      go_ret
      exact ⟨rfl, hfin'.out _ (by omega), (Only.refl _ w).alloc _⟩

theorem get_drop {L : List (Ky.K × Int)} {k : Ky.K} (n : Nat) (h : ∀ i, i < n → ∀ (hi : i < L.length), L[i].1 ≠ k) : Ky.get L k = Ky.get (L.drop n) k := by
  induction n generalizing L with
  | zero => simp
  | succ n ih =>
    cases L with
    | nil => simp
    | cons p L =>
      have h0 : p.1 ≠ k := h 0 (by omega) (by simp)
      rw [List.drop_succ_cons, ← ih (fun i hi hl => h (i + 1) (by omega) (by simpa using hl))]
      unfold Ky.get
      rw [List.find?_cons]
      simp [h0]

theorem rget_any (w : World) (b most : Nat) (L : List (Ky.K × Int)) (sl : Value) (h : RR w b most L sl) (k1 k2 : ByteArray) :
    Calls Try.prog 16 #[.pointer (some ⟨b, 0, none⟩), .string k1, .string k2] w (Is2 ((Ky.get L (k1, k2)).getD 0) (Ky.get L (k1, k2)).isSome w) := by
  obtain ⟨ad, cap, rfl, hcap, hcm⟩ := h.rd.val
  have c1 := h.c1
  have hl128 : L.length ≤ 128 := Nat.le_trans h.le h.m2
  have H := Lib.hid h
  clear h hcm
  go_enter Try.func16, Try.ntmps16
  go_wp2
  go_loop [8] (fun i => ∃ n : Nat, n ≤ L.length ∧ i = .int .i64 n ∧ Hid (∀ i, i < n → ∀ (hi : i < L.length), L[i].1 ≠ (k1, k2))) (fun i => L.length - (intOf i).toNat)
  case atStart => exact ⟨0, Nat.zero_le _, rfl, Lib.hid (fun i hi => by omega)⟩
  case round =>
    obtain ⟨n, hn, rfl, hno⟩ := hrel
    by_cases hlt : n < L.length
    · obtain ⟨sb, so, cap', hsl, hcap2, _, hsb, hcs⟩ := H.out.rd.form (by omega)
      cases hsl
      have q0 := hcs (n * 3 + 0) (.string L[n].1.1) (by rw [flat_get ent 3 (fun _ => rfl) L n hlt 0 (by omega)]; rfl)
      have q1 := hcs (n * 3 + 1) (.string L[n].1.2) (by rw [flat_get ent 3 (fun _ => rfl) L n hlt 1 (by omega)]; rfl)
      have q2 := hcs (n * 3 + 2) (.int .i64 L[n].2) (by rw [flat_get ent 3 (fun _ => rfl) L n hlt 2 (by omega)]; rfl)
      simp only [Nat.add_zero] at q0
      rw [← Nat.add_assoc] at q1 q2
      have hL0 : (0 : Int) ≤ (n : Int) := by omega
      have hL1 : (n : Int) < (L.length : Int) := by omega
      have hstep : L[n].1 ≠ (k1, k2) → ∀ i, i < n + 1 → ∀ (hi : i < L.length), L[i].1 ≠ (k1, k2) := by
        intro hne i hi hl
        by_cases e : i = n
        · subst e; exact hne
        · exact hno.out i (by omega) hl
      have hyes : L[n].1 = (k1, k2) → Ky.get L (k1, k2) = some L[n].2 := by
        intro he
        rw [get_drop n hno.out, List.drop_eq_getElem_cons hlt]
        unfold Ky.get
        rw [List.find?_cons]
        simp [he]
      generalize hp : L[n] = p at q0 q1 q2 hstep hyes
      obtain ⟨⟨x1, x2⟩, y⟩ := p
      simp only at q0 q1 q2 hstep hyes
      have Hstep := Lib.hid hstep
      have Hyes := Lib.hid hyes
      clear hp hcs hstep hyes hno
      by_cases e1 : x1 = k1
      · have t1 : (x1.toList == k1.toList) = true := by rw [str_tl]; simpa using e1
        by_cases e2 : x2 = k2
        · have t2 : (x2.toList == k2.toList) = true := by rw [str_tl]; simpa using e2
          have hg := Lib.hid (Hyes.out (by rw [e1, e2]))
          clear e1 e2
          go_wp2
          go_ret2
          exact ⟨by rw [hg.out]; rfl, Only.refl _ _⟩
        · have t2 : (x2.toList == k2.toList) = false := by rw [str_tl]; simpa using e2
          have hs := Lib.hid (Hstep.out (by intro e; exact e2 (by cases e; rfl)))
          clear e1 e2
          go_wp2
          go_round
          case rel => exact ⟨n + 1, by omega, by go_num, hs⟩
          case measure => simp [intOf]; omega
      · have t1 : (x1.toList == k1.toList) = false := by rw [str_tl]; simpa using e1
        have hs := Lib.hid (Hstep.out (by intro e; exact e1 (by cases e; rfl)))
        clear e1
        go_wp2
        go_round
        case rel => exact ⟨n + 1, by omega, by go_num, hs⟩
        case measure => simp [intOf]; omega
    · obtain rfl : n = L.length := by omega
      have hg := Lib.hid (get_drop _ hno.out)
      clear hno
      go_wp2
      go_ret2
      refine ⟨?_, Only.refl _ _⟩
      rw [hg.out]
      simp [Ky.get]
end Go.Proofs.Ytgcmklheifjciaa.KyW
