/- seg, plainly: hexadecimal names, read and written; no program in sight. -/
import Derived.Test.YtdacjomfipkpaaaDoorHp
set_option linter.unusedVariables false
set_option linter.unusedSimpArgs false
namespace Go.Proofs.YtdacjomfipkpaaaDoor.Sg

/-- a digit's letter -/
def hd (n : Nat) : UInt8 := UInt8.ofNat (if n < 10 then 48 + n else 87 + n)
/-- the last k digits of n -/
def pad : Nat → Nat → List UInt8
  | 0, _ => []
  | k + 1, n => pad k (n / 16) ++ [hd (n % 16)]
/-- a segment's name -/
def nm (n : Nat) : List UInt8 := 119 :: 45 :: pad 12 n

theorem pad_length : ∀ (k n : Nat), (pad k n).length = k
  | 0, _ => rfl
  | k + 1, n => by simp [pad, pad_length k]
theorem nm_length (n : Nat) : (nm n).length = 14 := by simp [nm, pad_length]

theorem pad_cons : ∀ (j n : Nat), pad (j + 1) n = hd (n / 16 ^ j % 16) :: pad j n
  | 0, n => by simp [pad]
  | j + 1, n => by
    have h := pad_cons j (n / 16)
    have hd2 : n / 16 / 16 ^ j = n / 16 ^ (j + 1) := by
      rw [Nat.div_div_eq_div_mul, Nat.pow_succ, Nat.mul_comm]
    calc pad (j + 2) n = pad (j + 1) (n / 16) ++ [hd (n % 16)] := rfl
      _ = (hd (n / 16 / 16 ^ j % 16) :: pad j (n / 16)) ++ [hd (n % 16)] := by rw [h]
      _ = hd (n / 16 ^ (j + 1) % 16) :: pad (j + 1) n := by rw [hd2]; rfl

theorem pad_zero : ∀ (k : Nat), pad k 0 = List.replicate k 48
  | 0 => rfl
  | k + 1 => by
    rw [List.replicate_succ', ← pad_zero k]
    rfl
theorem pad_more : ∀ (m k n : Nat), n < 16 ^ m → pad (m + k) n = List.replicate k 48 ++ pad m n
  | 0, k, n, h => by
    have : n = 0 := by simpa using h
    subst this
    simp [pad_zero, pad]
  | m + 1, k, n, h => by
    have h2 : n / 16 < 16 ^ m := by
      rw [Nat.div_lt_iff_lt_mul (by omega)]
      rw [Nat.pow_succ] at h
      exact h
    have := pad_more m k (n / 16) h2
    rw [show m + 1 + k = (m + k) + 1 by omega]
    show pad (m + k) (n / 16) ++ [hd (n % 16)] = List.replicate k 48 ++ (pad m (n / 16) ++ [hd (n % 16)])
    rw [this, List.append_assoc]

/-! ### names in the order of their numbers -/
theorem hd_lt : ∀ a b : Nat, a < 16 → b < 16 → (hd a < hd b ↔ a < b) := by
  intro a b ha hb
  have h : ∀ a b : Fin 16, (hd a < hd b ↔ (a : Nat) < b) := by decide
  exact h ⟨a, ha⟩ ⟨b, hb⟩
theorem hd_inj (a b : Nat) (ha : a < 16) (hb : b < 16) (h : hd a = hd b) : a = b := by
  have k : ∀ a b : Fin 16, hd a = hd b → (a : Nat) = b := by decide
  exact k ⟨a, ha⟩ ⟨b, hb⟩ h
theorem pad_inj : ∀ (k a b : Nat), a < 16 ^ k → b < 16 ^ k → pad k a = pad k b → a = b
  | 0, a, b, ha, hb, _ => by simp at ha hb; omega
  | k + 1, a, b, ha, hb, h => by
    have h' : pad k (a / 16) ++ [hd (a % 16)] = pad k (b / 16) ++ [hd (b % 16)] := h
    obtain ⟨h1, h2⟩ := List.append_inj' h' rfl
    have e1 := pad_inj k (a / 16) (b / 16) (by rw [Nat.div_lt_iff_lt_mul (by omega)]; rw [Nat.pow_succ] at ha; exact ha)
      (by rw [Nat.div_lt_iff_lt_mul (by omega)]; rw [Nat.pow_succ] at hb; exact hb) h1
    have e2 := hd_inj (a % 16) (b % 16) (by omega) (by omega) (by simpa using h2)
    omega

/-! ### reading -/
/-- the document's digit -/
def dgo (c : UInt8) : Option Nat :=
  if 97 ≤ c.toNat then (if c.toNat ≤ 102 then some (c.toNat - 87) else none)
  else if 48 ≤ c.toNat ∧ c.toNat ≤ 63 then some (c.toNat - 48) else none
def dec (m : Nat) : List UInt8 → Option Nat
  | [] => some m
  | c :: cs => match dgo c with
    | none => none
    | some d => dec (m * 16 + d) cs
theorem dec_append : ∀ (a b : List UInt8) (m : Nat), dec m (a ++ b) = (dec m a).bind (fun x => dec x b)
  | [], b, m => by simp [dec]
  | c :: cs, b, m => by
    simp only [List.cons_append, dec]
    cases dgo c with
    | none => rfl
    | some d => exact dec_append cs b _
theorem dgo_hd (d : Nat) (h : d < 16) : dgo (hd d) = some d := by
  have k : ∀ d : Fin 16, dgo (hd d) = some (d : Nat) := by decide
  exact k ⟨d, h⟩
theorem mod_step (n k : Nat) : n / 16 % 16 ^ k * 16 + n % 16 = n % 16 ^ (k + 1) := by
  have h1 : n % 16 ^ (k + 1) = n % (16 * 16 ^ k) := by rw [Nat.pow_succ, Nat.mul_comm]
  rw [h1, Nat.mod_mul]
  omega
theorem dec_pad : ∀ (k n m : Nat), dec m (pad k n) = some (m * 16 ^ k + n % 16 ^ k)
  | 0, n, m => by simp [pad, dec, Nat.mod_one]
  | k + 1, n, m => by
    show dec m (pad k (n / 16) ++ [hd (n % 16)]) = _
    rw [dec_append, dec_pad k (n / 16) m]
    simp only [Option.bind_some, dec, dgo_hd (n % 16) (by omega)]
    rw [← mod_step, Nat.pow_succ]
    congr 1
    have : m * (16 ^ k * 16) = m * 16 ^ k * 16 := by rw [Nat.mul_assoc]
    omega
/-- what a segment's name tells -/
def sp (l : List UInt8) : Nat × Bool :=
  if l.length = 14 then
    match dec 0 (l.drop 2) with
    | none => (0, false)
    | some n => if n < 2 ^ 44 ∧ nm n = l then (n, true) else (0, false)
  else (0, false)
theorem sp_nm (n : Nat) (h : n < 2 ^ 44) : sp (nm n) = (n, true) := by
  have h2 : (nm n).drop 2 = pad 12 n := rfl
  have h3 : n % 16 ^ 12 = n := Nat.mod_eq_of_lt (by omega)
  rw [sp, if_pos (nm_length n), h2, dec_pad]
  simp only [Nat.zero_mul, Nat.zero_add, h3]
  simp [h]
theorem sp_not (l : List UInt8) (h : ∀ n, n < 2 ^ 44 → nm n ≠ l) : sp l = (0, false) := by
  rw [sp]
  split
  · split
    · rfl
    · rename_i n _
      rw [if_neg (fun k => h n k.1 k.2)]
  · rfl
theorem sp_true {l : List UInt8} (h : (sp l).2 = true) : (sp l).1 < 2 ^ 44 ∧ nm (sp l).1 = l := by
  revert h
  rw [sp]
  split
  · split
    · intro h; cases h
    · rename_i n _
      split
      · rename_i k; intro _; exact k
      · intro h; cases h
  · intro h; cases h
theorem sp_false {l : List UInt8} (h : (sp l).2 = false) : (sp l).1 = 0 := by
  revert h
  rw [sp]
  split
  · split
    · intro _; rfl
    · rename_i n _
      split
      · intro h; cases h
      · intro _; rfl
  · intro _; rfl
theorem nm_inj (a b : Nat) (ha : a < 2 ^ 44) (hb : b < 2 ^ 44) (h : nm a = nm b) : a = b := by
  have h2 : pad 12 a = pad 12 b := by simpa [nm] using h
  exact pad_inj 12 a b (by omega) (by omega) h2

/-! ### the code's reading -/
def lo (c : UInt8) : Nat := c.toNat ||| 32
def dl (c : UInt8) : Option Nat :=
  if 48 ≤ c.toNat ∧ c.toNat ≤ 57 then some (c.toNat - 48)
  else if 97 ≤ lo c ∧ lo c ≤ 122 then some (lo c - 87) else none
/-- the value, and how it ended: 0: well; 1: out of range; 2: no numeral -/
def pug (m : Nat) : List UInt8 → Nat × Nat
  | [] => (m, 0)
  | c :: cs => match dl c with
    | none => (0, 2)
    | some d => if 16 ≤ d then (0, 2) else if 2 ^ 60 ≤ m then (2 ^ 64 - 1, 1) else pug (m * 16 + d) cs
theorem dl_hd (d : Nat) (h : d < 16) : dl (hd d) = some d := by
  have k : ∀ d : Fin 16, dl (hd d) = some (d : Nat) := by decide
  exact k ⟨d, h⟩
theorem pug_append : ∀ (a b : List UInt8) (m x : Nat), pug m a = (x, 0) → pug m (a ++ b) = pug x b
  | [], b, m, x, h => by
    simp only [pug, Prod.mk.injEq] at h
    rw [← h.1]; rfl
  | c :: cs, b, m, x, h => by
    simp only [List.cons_append, pug] at h ⊢
    revert h
    cases dl c with
    | none => intro h; simp at h
    | some d =>
      simp only
      split
      · intro h; simp at h
      · split
        · intro h; simp at h
        · intro h; exact pug_append cs b _ x h
theorem pug_pad : ∀ (k n m : Nat), (m + 1) * 16 ^ k ≤ 2 ^ 60 → pug m (pad k n) = (m * 16 ^ k + n % 16 ^ k, 0)
  | 0, n, m, h => by simp [pad, pug, Nat.mod_one]
  | k + 1, n, m, h => by
    have hp : (m + 1) * 16 ^ k * 16 ≤ 2 ^ 60 := by rw [Nat.pow_succ, ← Nat.mul_assoc] at h; exact h
    have h2 := pug_pad k (n / 16) m (by omega)
    show pug m (pad k (n / 16) ++ [hd (n % 16)]) = _
    rw [pug_append _ _ _ _ h2]
    have hb : n / 16 % 16 ^ k < 16 ^ k := Nat.mod_lt _ (Nat.pow_pos (by omega))
    have he : (m + 1) * 16 ^ k = m * 16 ^ k + 16 ^ k := by rw [Nat.add_mul, Nat.one_mul]
    simp only [pug, dl_hd (n % 16) (by omega)]
    rw [if_neg (by omega), if_neg (by omega), ← mod_step, Nat.pow_succ]
    congr 1
    have : m * (16 ^ k * 16) = m * 16 ^ k * 16 := by rw [Nat.mul_assoc]
    omega
theorem pug_code (l : List UInt8) (m : Nat) : (pug m l).2 = 0 ∨ (pug m l = (2 ^ 64 - 1, 1)) ∨ (pug m l = (0, 2)) := by
  induction l generalizing m with
  | nil => exact .inl rfl
  | cons c cs ih =>
    simp only [pug]
    split
    · exact .inr (.inr rfl)
    · split
      · exact .inr (.inr rfl)
      · split
        · exact .inr (.inl rfl)
        · exact ih _
theorem dl_lt {c : UInt8} {d : Nat} (h : dl c = some d) : d < 256 := by
  have := c.toNat_lt
  have hl : lo c < 256 := Nat.or_lt_two_pow (n := 8) this (by omega)
  unfold dl at h
  split at h
  · simp at h; omega
  · split at h
    · simp at h; omega
    · simp at h
theorem pug_lt (l : List UInt8) (m : Nat) (h : m < 2 ^ 64) : (pug m l).1 < 2 ^ 64 := by
  induction l generalizing m with
  | nil => exact h
  | cons c cs ih =>
    simp only [pug]
    split
    · show 0 < 2 ^ 64; omega
    · split
      · show 0 < 2 ^ 64; omega
      · split
        · show 2 ^ 64 - 1 < 2 ^ 64; omega
        · exact ih _ (by omega)
end Go.Proofs.YtdacjomfipkpaaaDoor.Sg
