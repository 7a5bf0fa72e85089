/- DefOrder over the symbolic heap: a definition that is read has an order in which each task stands behind those that it waits for. Conditions: the listed variables hold what the row says. -/
import Derived.Test.YthljbjokonglhaaGreatDoorDfD6
namespace Go.Proofs.YthljbjokonglhaaGreatDoor.DfK
open Go Am Am.K DfEnv DfM LibP DfG
set_option linter.unusedVariables false
set_option linter.unusedSimpArgs false
set_option maxRecDepth 10000
/-! the plain law of the order -/
theorem noCyc_V {N : Nat} {E : List Ed} (hE : GoodE N E) (h : noCyc N E) : ∀ n, n < N → V (far (fun n => bes E n false) N n) n = false := by
  intro n hn
  have := h n hn
  unfold selfD at this
  unfold V
  rw [fa_at hE hn, this]
theorem sc_lt {N : Nat} {E : List Ed} (hE : GoodE N E) : ∀ a, ∀ b ∈ bes E a false, b < N := fun a b hb => (hE.lt _ (mem_bes.1.1 hb)).2.1
/-- the order is good -/
structure OrdOK (N : Nat) (E : List Ed) (l : List Nat) : Prop where
  lt : ∀ a ∈ l, a < N
  nd : l.Nodup
  pre : ∀ (k n : Nat), l[k]? = some n → ∀ a, (a, n) ∈ E → a ∈ l.take k
/-! the law's own loops -/
theorem mem_edFrom {ts : List Tk} : ∀ {i0 i : Nat} {t : Tk} {a : Int}, ts[i]? = some t → a ∈ t.after → (a.toNat, i0 + i) ∈ edFrom i0 ts := by
  induction ts with
  | nil => intro i0 i t a h; simp at h
  | cons u ts ih =>
    intro i0 i t a h ha
    cases i with
    | zero =>
      simp only [List.getElem?_cons_zero, Option.some.injEq] at h
      subst h
      exact List.mem_append_left _ (List.mem_map.2 ⟨a, ha, rfl⟩)
    | succ i =>
      simp only [List.getElem?_cons_succ] at h
      have := ih (i0 := i0 + 1) h ha
      rw [show i0 + 1 + i = i0 + (i + 1) by omega] at this
      exact List.mem_append_right _ this
theorem after_le {ts : List Tk} (hn : ts.length ≤ 16) (ha : aftAll ts) : ∀ t ∈ ts, t.after.length ≤ 16 := fun t ht => by
  obtain ⟨i, hi⟩ := List.getElem?_of_mem ht
  obtain ⟨x1, x2⟩ := aft_all ha hi
  have := nodup_le (n := ts.length) (fun a h => ⟨(x1 a h).1, (x1 a h).2.1⟩) x2
  omega
end Go.Proofs.YthljbjokonglhaaGreatDoor.DfK
