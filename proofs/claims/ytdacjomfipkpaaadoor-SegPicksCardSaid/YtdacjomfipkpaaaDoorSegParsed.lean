/- strconv.ParseInt at base 16; seg.Parse.  -/
import Derived.Test.YtdacjomfipkpaaaDoorSegParsec
import Derived.Test.YtdacjomfipkpaaaDoorShelf
import Derived.Shelf.Strconv.ToError
import Derived.Shelf.Strconv.ToErrorRange
import Derived.Shelf.Strings.Prefix
set_option linter.unusedVariables false
set_option linter.unusedSimpArgs false
namespace Go.Proofs.YtdacjomfipkpaaaDoor.SgW
open Go.RowKit Hp Sg Go.Shelf

theorem te_syntax (fn s : ByteArray) (base bits : Int) (ev : Value) (w : World) (hlim : s.size ≤ 281474976710656) (hv : w.cell? ⟨1, 0, none⟩ = some ev) (hev : ev = .nilIface ∨ ∃ te pe, ev = .iface te pe) :
    Calls Tryd.prog 46 #[.string fn, .string s, .int .i64 base, .int .i64 bits, .iface 115 (.int .i64 2)] w fun e w' => ∃ N, e = .returned (.iface 118 (.pointer (some ⟨N, 0, none⟩))) ∧ w.heap.size ≤ N ∧ w'.heap[N]? = some (.cells #[.string fn, .string s, ev] 142 (0, 0)) ∧ Below w.heap.size w w' := Any.strconv_toError_syntax Tryd.laysC245 fn s base bits ev w hlim hv hev
theorem te_range (fn s : ByteArray) (base bits : Int) (ev : Value) (w : World) (hlim : s.size ≤ 281474976710656) (hv : w.cell? ⟨2, 0, none⟩ = some ev) (hev : ev = .nilIface ∨ ∃ te pe, ev = .iface te pe) :
    Calls Tryd.prog 46 #[.string fn, .string s, .int .i64 base, .int .i64 bits, .iface 115 (.int .i64 1)] w fun e w' => ∃ N, e = .returned (.iface 118 (.pointer (some ⟨N, 0, none⟩))) ∧ w.heap.size ≤ N ∧ w'.heap[N]? = some (.cells #[.string fn, .string s, ev] 142 (0, 0)) ∧ Below w.heap.size w w' := Any.strconv_toError_range Tryd.laysC245 fn s base bits ev w hlim hv hev
theorem trim_prefix (s p : ByteArray) (w : World) :
    Calls Tryd.prog 26 #[.string s, .string p] w fun e w' => e = .returned (.string ⟨(Lib.trimPrefix s.data.toList p.data.toList).toArray⟩) ∧ w' = w := Any.strings_TrimPrefix Tryd.lays101 s p w
/-- what of the package-level variables is read -/
structure Vs (w : World) : Prop where
  tab : w.cell? ⟨5, 15, none⟩ = some (.int .u8 4)
  syn : ∃ t p, w.cell? ⟨1, 0, none⟩ = some (.iface t p)
  rng : ∃ t p, w.cell? ⟨2, 0, none⟩ = some (.iface t p)
theorem Vs.only {w w' : World} (h : Vs w) (ho : Only (fun _ => False) w w') : Vs w' :=
  ⟨ho.cellv h.tab (fun h => h), by obtain ⟨t, p, e⟩ := h.syn; exact ⟨t, p, ho.cellv e (fun h => h)⟩, by obtain ⟨t, p, e⟩ := h.rng; exact ⟨t, p, ho.cellv e (fun h => h)⟩⟩

theorem pu_pad (n : Nat) (h : n < 2 ^ 48) : pu (pad 12 n) = (n, 0) := by
  have h1 : pad 12 n ≠ [] := fun e => by have := pad_length 12 n; rw [e] at this; cases this
  have h2 := pug_pad 12 n 0 (by decide)
  have h3 : n % 16 ^ 12 = n := Nat.mod_eq_of_lt (by omega)
  rw [pu, if_neg h1, h2, h3]
  simp
theorem pad_head (n : Nat) (b : UInt8) (l : List UInt8) (h : pad 12 n = b :: l) : b.toNat ≠ 43 ∧ b.toNat ≠ 45 := by
  have h2 := pad_cons 11 n
  rw [h] at h2
  have h3 : b = hd (n / 16 ^ 11 % 16) := (List.cons.inj h2).1
  have k : ∀ d : Fin 16, (hd d).toNat ≠ 43 ∧ (hd d).toNat ≠ 45 := by decide
  rw [h3]
  exact k ⟨n / 16 ^ 11 % 16, Nat.mod_lt _ (by omega)⟩

theorem pInt (s : ByteArray) (hs : s.size ≤ 281474976710656) (w : World) :
    Calls Tryd.prog 45 #[.string s, .int .i64 16, .int .i64 64] w
      fun e w' => ∃ v c, c ≤ 2 ∧ e = .returned (.tuple #[.int .i64 v, ev c]) ∧ (∀ n, n < 2 ^ 48 → s.data.toList = pad 12 n → v = n ∧ c = 0) ∧ Only (fun _ => False) w w' := by
  by_cases h1 : 0 < s.size
  · have hl : s.data.toList = s[0] :: s.data.toList.drop 1 := by
      have h2 : 0 < s.data.toList.length := by rw [Array.length_toList]; exact h1
      cases hd : s.data.toList with
      | nil => rw [hd] at h2; cases h2
      | cons b l =>
        have : s[0] = b := by
          show s.data[0] = b
          rw [← Array.getElem_toList]
          simp [hd]
        simp [this]
    by_cases hx : ((s[0]'h1).toNat : Int) = 43 ∨ ((s[0]'h1).toNat : Int) = 45
    · refine (pIntSign s hs h1 hx w).mono ?_
      rintro e w' ⟨v, c, hc, rfl, ho⟩
      refine ⟨v, c, hc, rfl, fun n hn he => ?_, ho⟩
      have := pad_head n _ _ (he.symm.trans hl)
      omega
    · refine (pInt0 s hs h1 (fun h => hx (.inl h)) (fun h => hx (.inr h)) w).mono ?_
      rintro e w' ⟨rfl, ho⟩
      refine ⟨_, _, ?_, rfl, fun n hn he => ?_, ho⟩
      · unfold pin; split; · decide
        split; · decide
        split; · decide
        exact Nat.zero_le _
      · rw [he, pu_pad n hn]
        unfold pin
        rw [if_neg (by simp), if_neg (by simp; omega), if_neg (by simp)]
        simp
  · have : s = ⟨#[]⟩ := by
      apply ByteArray.ext
      exact Array.eq_empty_of_size_eq_zero (by show s.size = 0; omega)
    subst this
    refine (pInt_empty w).mono ?_
    rintro e w' ⟨rfl, ho⟩
    refine ⟨_, _, Nat.le_refl _, rfl, fun n hn he => ?_, ho⟩
    have := pad_length 12 n
    rw [← he] at this
    cases this
end Go.Proofs.YtdacjomfipkpaaaDoor.SgW
