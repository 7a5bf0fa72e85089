/- The contracts of keys with the blocks that belong to one *Keys. -/
import Derived.Test.YtgcmklheifjciaaKeysOpen
set_option linter.unusedVariables false
set_option linter.unusedSimpArgs false
namespace Go.Proofs.Ytgcmklheifjciaa.KyL
open Go.RowKit Hp KyW
/-- a *Keys whose blocks are among F -/
structure KF (F : Nat → Prop) (w : World) (b most : Nat) (L : List (Ky.K × Int)) : Prop where
  kr : ∃ bm sl, KR w b most L bm sl ∧ F b ∧ F bm ∧ ∀ g, sl.ownBlock = some g → F g
  lt : ∀ x, F x → x < w.heap.size
theorem KF.keep {F G : Nat → Prop} {w w' : World} {b most : Nat} {L : List (Ky.K × Int)} (h : KF G w b most L) (ho : Only F w w') (hd : ∀ x, F x → G x → False) : KF G w' b most L := by
  obtain ⟨⟨bm, sl, h1, h2, h3, h4⟩, h5⟩ := h
  exact ⟨⟨bm, sl, h1.only ho (fun h => hd _ h h2) (fun h => hd _ h h3) (fun g hg h => hd _ h (h4 g hg)), h2, h3, h4⟩, fun x hx => Nat.lt_of_lt_of_le (h5 x hx) ho.size⟩
theorem KF.quiet {G : Nat → Prop} {w w' : World} {b most : Nat} {L : List (Ky.K × Int)} (h : KF G w b most L) (ho : Only (fun _ => False) w w') : KF G w' b most L := h.keep ho (fun _ h _ => h)
theorem dis_step {F F' G : Nat → Prop} {n : Nat} (hd : ∀ x, F x → G x → False) (hG : ∀ x, G x → x < n) (hF : ∀ x, F' x → F x ∨ n ≤ x) : ∀ x, F' x → G x → False := by
  intro x h1 h2
  rcases hF x h1 with h | h
  · exact hd x h h2
  · have := hG x h2; omega
def NewF (most : Nat) (w : World) (e : Ending) (w' : World) : Prop := ∃ b F, e = .returned (.pointer (some ⟨b, 0, none⟩)) ∧ KF F w' b most [] ∧ (∀ x, F x → w.heap.size ≤ x) ∧ Only (fun _ => False) w w'
theorem new_kf (w : World) (n : Int) (most : Nat) (hm : (min (max n 1) 128).toNat = most) : Calls Try.prog 8 #[.int .i64 n] w (NewF most w) :=
  (new_any w n).mono fun e w' ⟨he, hk, ho⟩ => by
    have hb := World.block_lt_of_cell? w' _ hk.c0
    simp only at hb
    exact ⟨_, fun x => x = w.heap.size ∨ x = w.heap.size + 1, he, ⟨⟨_, _, by rw [← hm]; exact hk, .inr rfl, .inl rfl, by simp [Value.ownBlock]⟩, fun x hx => by omega⟩, fun x hx => by omega, ho⟩
def PutF (F : Nat → Prop) (b most : Nat) (r : Int) (ok : Bool) (L' : List (Ky.K × Int)) (w : World) (e : Ending) (w' : World) : Prop :=
  e = .returned (.tuple #[.int .i64 r, .bool ok]) ∧ ∃ F', KF F' w' b most L' ∧ Only F w w' ∧ ∀ x, F' x → F x ∨ w.heap.size ≤ x
theorem put_kf (F : Nat → Prop) (w : World) (b most : Nat) (L : List (Ky.K × Int)) (h : KF F w b most L) (k1 k2 : ByteArray) (id : Int) (r : Int) (ok : Bool) (L' : List (Ky.K × Int)) (hp : Ky.put most L (k1, k2) id = (r, ok, L')) :
    Calls Try.prog 9 #[.pointer (some ⟨b, 0, none⟩), .agg #[.string k1, .string k2], .int .i64 id] w (PutF F b most r ok L' w) := by
  obtain ⟨⟨bm, sl, h1, h2, h3, h4⟩, h5⟩ := h
  refine (put_any w b most L bm sl h1 k1 k2 id).mono ?_
  rintro e w' ⟨he, sl', hk, ho, hn⟩
  rw [hp] at he hk
  have hol : ∀ g, sl'.ownBlock = some g → g < w'.heap.size := fun g hg => hk.own.lt g hg
  refine ⟨he, fun x => F x ∨ sl'.ownBlock = some x, ⟨⟨bm, sl', hk, .inl h2, .inl h3, fun g hg => .inr hg⟩, fun x hx => ?_⟩, ho.mono (fun x _ hx => ?_), fun x hx => ?_⟩
  · rcases hx with hx | hx
    · exact Nat.lt_of_lt_of_le (h5 x hx) ho.size
    · exact hol x hx
  · rcases hx with rfl | rfl | hx
    · exact h2
    · exact h3
    · exact h4 x hx
  · rcases hx with hx | hx
    · exact .inl hx
    · rcases hn with hn | hn
      · exact .inl (h4 x (by rw [← hn]; exact hx))
      · exact .inr (hn x hx)
theorem get_kf (F : Nat → Prop) (w : World) (b most : Nat) (L : List (Ky.K × Int)) (h : KF F w b most L) (k1 k2 : ByteArray) (r : Option Int) (hp : Ky.get L (k1, k2) = r) :
    Calls Try.prog 10 #[.pointer (some ⟨b, 0, none⟩), .agg #[.string k1, .string k2]] w (Is2 (r.getD 0) r.isSome w) := by
  obtain ⟨⟨bm, sl, h1, h2, h3, h4⟩, h5⟩ := h
  rw [← hp]
  exact get_any w b most L bm sl h1 k1 k2
theorem len_kf (F : Nat → Prop) (w : World) (b most n : Nat) (L : List (Ky.K × Int)) (h : KF F w b most L) (hn : L.length = n) :
    Calls Try.prog 11 #[.pointer (some ⟨b, 0, none⟩)] w (IsI n w) := by
  obtain ⟨⟨bm, sl, h1, h2, h3, h4⟩, h5⟩ := h
  rw [← hn]
  exact len_any w b most L bm sl h1
theorem all_kf (F : Nat → Prop) (w : World) (b most : Nat) (L : List (Ky.K × Int)) (h : KF F w b most L) :
    Calls Try.prog 13 #[.pointer (some ⟨b, 0, none⟩)] w (AllR L w) := by
  obtain ⟨⟨bm, sl, h1, h2, h3, h4⟩, h5⟩ := h
  exact all_any w b most L bm sl h1
end Go.Proofs.Ytgcmklheifjciaa.KyL
