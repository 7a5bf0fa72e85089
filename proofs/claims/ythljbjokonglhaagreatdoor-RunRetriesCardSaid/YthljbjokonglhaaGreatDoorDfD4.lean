/- What def.Parse does, as a contract over the symbolic heap: its words, its tasks. Conditions: the listed variables hold what the row says. -/
import Derived.Test.YthljbjokonglhaaGreatDoorDfD3
namespace Go.Proofs.YthljbjokonglhaaGreatDoor.DfK
open Go Am Am.K DfEnv DfM LibP DfG
set_option linter.unusedVariables false
set_option linter.unusedSimpArgs false
set_option maxRecDepth 10000
/-- a task that is being read: its cells, and its own row -/
structure TO (H : Hp) (p : Nat) (t : Tk) (x : AV) : Prop where
  c : Cs H p (tkC t x) 43 0
  o : Ow H 3 1 x (ints t.after)
  ne : p ∉ rid x
theorem TO.out0 {H H' : Hp} {p : Nat} {t : Tk} {x : AV} (h : TO H p t x) (k : Out [] H H') : TO H' p t x := ⟨h.c.out k (by simp), h.o.out k (by simp), h.ne⟩
theorem TO.st {H : Hp} {p : Nat} {t : Tk} {x : AV} (h : TO H p t x) (o : Nat) (ho : o < 6) (v : AV) (hv : oneC v = true) (t' : Tk) (ht : (tkC t x).set o v = tkC t' x) (ha : t'.after = t.after) :
    ∃ H', st 1 (.ptr p o) v H = some H' ∧ TO H' p t' x ∧ Out [p] H H' := by
  obtain ⟨H', w1, w2, w3, w4⟩ := st1 h.c (by decide) (o := o) (by rw [tk_len]; exact ho) hv
  rw [ht] at w2
  exact ⟨H', w1, ⟨w2, by rw [ha]; exact h.o.out w3 fun j hj => by rw [List.mem_singleton]; intro e; subst e; exact h.ne hj, h.ne⟩, w3⟩
end Go.Proofs.YthljbjokonglhaaGreatDoor.DfK
