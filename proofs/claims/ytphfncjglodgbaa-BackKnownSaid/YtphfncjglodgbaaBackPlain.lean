/- Plain facts about waiting times: no program in sight. The delay ahead of try n+1 is 'dl b n' (doubling, at most 64000), the total of n delays is 'sm b n', and 'tri b w' is the greatest number of tries, at most 2147483647, whose total is at most w. -/
set_option linter.unusedVariables false
namespace Go.Proofs.Ytphfncjglodgbaa.Bk

def dl (b : Int) : Nat → Int
  | 0 => min b 64000
  | n + 1 => min (2 * dl b n) 64000

theorem dl_zero (b : Int) : dl b 0 = min b 64000 := rfl
theorem dl_succ (b : Int) (n : Nat) : dl b (n + 1) = min (2 * dl b n) 64000 := rfl

theorem dl_bd (b : Int) (hb : 1 ≤ b) (n : Nat) : 1 ≤ dl b n ∧ dl b n ≤ 64000 := by
  induction n with
  | zero => rw [dl_zero]; omega
  | succ n ih => rw [dl_succ]; omega

theorem dl_stuck (b : Int) (hb : 1 ≤ b) (n : Nat) (h : dl b n = 64000) (k : Nat) : dl b (n + k) = 64000 := by
  induction k with
  | zero => exact h
  | succ k ih => rw [← Nat.add_assoc, dl_succ, ih]; omega

theorem dl_stuck' (b : Int) (hb : 1 ≤ b) (n m : Nat) (h : dl b n = 64000) (hm : n ≤ m) : dl b m = 64000 := by
  obtain ⟨k, rfl⟩ := Nat.exists_eq_add_of_le hm
  exact dl_stuck b hb n h k

theorem dl_step (b : Int) (hb : 1 ≤ b) (n : Nat) : dl b n ≤ dl b (n + 1) ∧ (dl b (n + 1) = 2 * dl b n ∨ dl b (n + 1) = 64000) := by
  have := dl_bd b hb n
  rw [dl_succ]; omega

theorem dl_mono (a b : Int) (ha : 1 ≤ a) (h : a ≤ b) (n : Nat) : dl a n ≤ dl b n := by
  induction n with
  | zero => rw [dl_zero, dl_zero]; omega
  | succ n ih => rw [dl_succ, dl_succ]; omega

theorem dl_pow (b : Int) (hb : 1 ≤ b) (n : Nat) : min ((2 ^ n : Nat) : Int) 64000 ≤ dl b n := by
  induction n with
  | zero => rw [dl_zero]; simp; omega
  | succ n ih => rw [dl_succ, Nat.pow_succ]; omega
theorem dl_16 (b : Int) (hb : 1 ≤ b) (n : Nat) (h : 16 ≤ n) : dl b n = 64000 := by
  have h1 := dl_pow b hb 16
  have h2 := dl_bd b hb 16
  exact dl_stuck' b hb 16 n (by omega) h

/-- the unclipped value that the reference doubles -/
theorem dl_lt (b : Int) (n : Nat) (h : dl b n < 64000) : dl b (n + 1) = min (2 * dl b n) 64000 := rfl

def delay (b t : Int) : Int := if b < 1 ∨ t < 1 then 0 else dl b (t - 1).toNat

theorem delay_low (b t : Int) (h : b < 1 ∨ t < 1) : delay b t = 0 := if_pos h
theorem delay_of (b t : Int) (hb : 1 ≤ b) (ht : 1 ≤ t) : delay b t = dl b (t - 1).toNat := if_neg (by omega)
theorem delay_nat (b : Int) (hb : 1 ≤ b) (n : Nat) : delay b ((n : Int) + 1) = dl b n := by
  rw [delay_of b _ hb (by omega)]; congr 1; omega
theorem delay_bd (b t : Int) : 0 ≤ delay b t ∧ delay b t ≤ 64000 := by
  by_cases h : b < 1 ∨ t < 1
  · rw [delay_low _ _ h]; omega
  · rw [delay_of _ _ (by omega) (by omega)]
    have := dl_bd b (by omega) (t - 1).toNat
    omega
theorem delay_pos (b t : Int) (hb : 1 ≤ b) (ht : 1 ≤ t) : 1 ≤ delay b t := by
  rw [delay_of _ _ hb ht]; exact (dl_bd b hb _).1

def sm (b : Int) : Nat → Int
  | 0 => 0
  | n + 1 => sm b n + dl b n

theorem sm_zero (b : Int) : sm b 0 = 0 := rfl
theorem sm_succ (b : Int) (n : Nat) : sm b (n + 1) = sm b n + dl b n := rfl

theorem sm_bd (b : Int) (hb : 1 ≤ b) (n : Nat) : (n : Int) ≤ sm b n ∧ sm b n ≤ 64000 * n := by
  induction n with
  | zero => rw [sm_zero]; omega
  | succ n ih => have := dl_bd b hb n; rw [sm_succ]; omega

theorem sm_le (b : Int) (hb : 1 ≤ b) (n k : Nat) : sm b n ≤ sm b (n + k) := by
  induction k with
  | zero => exact Int.le_refl _
  | succ k ih => have := dl_bd b hb (n + k); rw [← Nat.add_assoc, sm_succ]; omega

theorem sm_le' (b : Int) (hb : 1 ≤ b) (n m : Nat) (h : n ≤ m) : sm b n ≤ sm b m := by
  obtain ⟨k, rfl⟩ := Nat.exists_eq_add_of_le h
  exact sm_le b hb n k

theorem sm_mono (a b : Int) (ha : 1 ≤ a) (h : a ≤ b) (n : Nat) : sm a n ≤ sm b n := by
  induction n with
  | zero => exact Int.le_refl _
  | succ n ih => have := dl_mono a b ha h n; rw [sm_succ, sm_succ]; omega

/-- behind the first delay of 64000 each further one is 64000 -/
theorem sm_tail (b : Int) (hb : 1 ≤ b) (n : Nat) (h : dl b n = 64000) (k : Nat) : sm b (n + k) = sm b n + 64000 * k := by
  induction k with
  | zero => simp
  | succ k ih => rw [← Nat.add_assoc, sm_succ, ih, dl_stuck b hb n h k]; omega

theorem sm_tail' (b : Int) (hb : 1 ≤ b) (n m : Nat) (h : dl b n = 64000) (hm : n ≤ m) : sm b m = sm b n + 64000 * ((m : Int) - n) := by
  obtain ⟨k, rfl⟩ := Nat.exists_eq_add_of_le hm
  rw [sm_tail b hb n h k]; omega

def total (b t : Int) : Int := if b < 1 then 0 else sm b (min t 2147483647).toNat

theorem total_low (b t : Int) (h : b < 1) : total b t = 0 := if_pos h
theorem total_of (b t : Int) (hb : 1 ≤ b) : total b t = sm b (min t 2147483647).toNat := if_neg (by omega)
theorem total_neg (b t : Int) (h : t < 1) : total b t = 0 := by
  by_cases hb : b < 1
  · exact total_low b t hb
  · rw [total_of _ _ (by omega), show (min t 2147483647).toNat = 0 by omega]; rfl
theorem total_nat (b : Int) (hb : 1 ≤ b) (n : Nat) (hn : (n : Int) ≤ 2147483647) : total b n = sm b n := by
  rw [total_of b _ hb]; congr 1; omega
theorem total_bd (b t : Int) : 0 ≤ total b t ∧ total b t ≤ 137438953408000 := by
  by_cases hb : b < 1
  · rw [total_low b t hb]; omega
  · rw [total_of _ _ (by omega)]
    have := sm_bd b (by omega) (min t 2147483647).toNat
    omega

theorem delay_mono (a b t : Int) (ha : 1 ≤ a) (h : a ≤ b) : delay a t ≤ delay b t := by
  by_cases ht : t < 1
  · rw [delay_low _ _ (.inr ht), delay_low _ _ (.inr ht)]; omega
  · rw [delay_of _ _ ha (by omega), delay_of _ _ (by omega) (by omega)]; exact dl_mono a b ha h _
theorem total_mono (a b t : Int) (ha : 1 ≤ a) (h : a ≤ b) : total a t ≤ total b t := by
  rw [total_of _ _ ha, total_of _ _ (by omega)]; exact sm_mono a b ha h _
theorem delay_step (b t : Int) (hb : 1 ≤ b) (ht : 1 ≤ t) : delay b t ≤ delay b (t + 1) ∧ (delay b (t + 1) = 2 * delay b t ∨ delay b (t + 1) = 64000) := by
  rw [delay_of _ _ hb ht, delay_of _ _ hb (by omega), show (t + 1 - 1).toNat = (t - 1).toNat + 1 by omega]
  exact dl_step b hb _
theorem total_add (b t : Int) (ht : 0 ≤ t) (ht2 : t < 2147483647) : total b (t + 1) = total b t + delay b (t + 1) := by
  by_cases hb : b < 1
  · rw [total_low _ _ hb, total_low _ _ hb, delay_low _ _ (.inl hb)]; rfl
  · rw [total_of _ _ (by omega), total_of _ _ (by omega), delay_of _ _ (by omega) (by omega),
      show (min (t + 1) 2147483647).toNat = (min t 2147483647).toNat + 1 by omega, show (t + 1 - 1).toNat = (min t 2147483647).toNat by omega]
    rfl
theorem total_step (b : Int) (n : Nat) (h : (n : Int) < 2147483647) : total b ((n : Int) + 1) = total b n + delay b ((n : Int) + 1) := total_add b n (by omega) h

/-- the greatest number of tries up to M whose total is at most w -/
def most (b w : Int) : Nat → Nat
  | 0 => 0
  | n + 1 => if sm b (n + 1) ≤ w then n + 1 else most b w n

theorem most_le (b w : Int) (M : Nat) : most b w M ≤ M := by
  induction M with
  | zero => exact Nat.le_refl _
  | succ n ih =>
    unfold most
    by_cases h : sm b (n + 1) ≤ w
    · rw [if_pos h]; exact Nat.le_refl _
    · rw [if_neg h]; omega

theorem most_fits (b w : Int) (hw : 0 ≤ w) (M : Nat) : sm b (most b w M) ≤ w := by
  induction M with
  | zero => exact hw
  | succ n ih =>
    unfold most
    by_cases h : sm b (n + 1) ≤ w
    · rw [if_pos h]; exact h
    · rw [if_neg h]; exact ih

theorem most_past (b w : Int) (M : Nat) (k : Nat) (h : most b w M < k) (hk : k ≤ M) : w < sm b k := by
  induction M with
  | zero => omega
  | succ n ih =>
    unfold most at h
    by_cases hc : sm b (n + 1) ≤ w
    · rw [if_pos hc] at h; omega
    · rw [if_neg hc] at h
      by_cases e : k = n + 1
      · subst e; omega
      · exact ih h (by omega)

def tri (b w : Int) : Int := if b < 1 ∨ w < 0 then 0 else most b w 2147483647

theorem tri_low (b w : Int) (h : b < 1 ∨ w < 0) : tri b w = 0 := if_pos h
theorem tri_of (b w : Int) (hb : 1 ≤ b) (hw : 0 ≤ w) : tri b w = most b w 2147483647 := if_neg (by omega)
theorem tri_bd (b w : Int) : 0 ≤ tri b w ∧ tri b w ≤ 2147483647 := by
  by_cases h : b < 1 ∨ w < 0
  · rw [tri_low _ _ h]; omega
  · rw [tri_of _ _ (by omega) (by omega)]
    have := most_le b w 2147483647
    omega
/-- what decides it -/
theorem tri_is (b w : Int) (hb : 1 ≤ b) (hw : 0 ≤ w) (n : Nat) (hn : n ≤ 2147483647) (hf : sm b n ≤ w) (hp : n = 2147483647 ∨ w < sm b (n + 1)) : tri b w = n := by
  rw [tri_of b w hb hw]
  have h1 := most_le b w 2147483647
  have h2 := most_fits b w hw 2147483647
  have h3 := most_past b w 2147483647
  generalize most b w 2147483647 = m at h1 h2 h3 ⊢
  by_cases a : m < n
  · have := h3 n a hn; omega
  · by_cases c : n < m
    · have := sm_le' b hb (n + 1) m (by omega)
      omega
    · omega
theorem tri_fits (b w : Int) (hb : 1 ≤ b) (hw : 0 ≤ w) : sm b (tri b w).toNat ≤ w := by
  rw [tri_of b w hb hw]; exact most_fits b w hw _
theorem tri_past (b w : Int) (hb : 1 ≤ b) (hw : 0 ≤ w) (h : tri b w < 2147483647) : w < sm b ((tri b w).toNat + 1) := by
  rw [tri_of b w hb hw] at h ⊢
  have h3 := most_past b w 2147483647
  generalize most b w 2147483647 = m at h h3 ⊢
  exact h3 _ (by omega) (by omega)
theorem tri_anti (a b w : Int) (ha : 1 ≤ a) (h : a ≤ b) (hw : 0 ≤ w) : tri b w ≤ tri a w := by
  by_cases c : tri a w < tri b w
  · have h1 := tri_bd a w
    have h2 := tri_bd b w
    have h3 := tri_past a w ha hw (by omega)
    have h4 := tri_fits b w (by omega) hw
    have h5 := sm_mono a b ha h (tri b w).toNat
    have h6 := sm_le' a ha ((tri a w).toNat + 1) (tri b w).toNat (by omega)
    omega
  · omega
theorem total_tri (b w : Int) (hb : 1 ≤ b) (hw : 0 ≤ w) : total b (tri b w) ≤ w := by
  have h1 := tri_bd b w
  rw [total_of b _ hb, show (min (tri b w) 2147483647).toNat = (tri b w).toNat by omega]
  exact tri_fits b w hb hw
theorem total_tri_past (b w : Int) (hb : 1 ≤ b) (hw : 0 ≤ w) : tri b w = 2147483647 ∨ w < total b (tri b w + 1) := by
  have h1 := tri_bd b w
  by_cases c : tri b w = 2147483647
  · exact .inl c
  · refine .inr ?_
    rw [total_of b _ hb, show (min (tri b w + 1) 2147483647).toNat = (tri b w).toNat + 1 by omega]
    exact tri_past b w hb hw (by omega)
end Go.Proofs.Ytphfncjglodgbaa.Bk
