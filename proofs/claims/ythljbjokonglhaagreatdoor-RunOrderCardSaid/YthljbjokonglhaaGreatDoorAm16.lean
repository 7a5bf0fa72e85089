/- A heap with a new object on top, written out (of no program). -/
import Derived.Test.YthljbjokonglhaaGreatDoorAm15
set_option linter.unusedVariables false
set_option linter.unusedSimpArgs false
namespace Go.Proofs.YthljbjokonglhaaGreatDoor.Am
set_option linter.unusedVariables false
set_option linter.unusedSimpArgs false
/-! A heap with a new object on top, written out. -/
namespace Tr
variable {α : Type}
theorem putP_twice : ∀ (p : Pa) (x y : Option α) (t : Tr α), putP p y (putP p x t) = putP p y t
  | .e, x, y, t => rfl
  | .a p, x, y, t => congrArg (fun k => Tr.node t.val k t.c1 t.c2 t.c3) (putP_twice p x y t.c0)
  | .b p, x, y, t => congrArg (fun k => Tr.node t.val t.c0 k t.c2 t.c3) (putP_twice p x y t.c1)
  | .c p, x, y, t => congrArg (fun k => Tr.node t.val t.c0 t.c1 k t.c3) (putP_twice p x y t.c2)
  | .d p, x, y, t => congrArg (fun k => Tr.node t.val t.c0 t.c1 t.c2 k) (putP_twice p x y t.c3)
theorem putP_comm : ∀ (p q : Pa) (x y : Option α) (t : Tr α), p ≠ q → putP p x (putP q y t) = putP q y (putP p x t)
  | .e, .e, x, y, t, h => absurd rfl h
  | .a p, .a q, x, y, t, h => congrArg (fun k => Tr.node t.val k t.c1 t.c2 t.c3) (putP_comm p q x y t.c0 (fun e => h (by rw [e])))
  | .b p, .b q, x, y, t, h => congrArg (fun k => Tr.node t.val t.c0 k t.c2 t.c3) (putP_comm p q x y t.c1 (fun e => h (by rw [e])))
  | .c p, .c q, x, y, t, h => congrArg (fun k => Tr.node t.val t.c0 t.c1 k t.c3) (putP_comm p q x y t.c2 (fun e => h (by rw [e])))
  | .d p, .d q, x, y, t, h => congrArg (fun k => Tr.node t.val t.c0 t.c1 t.c2 k) (putP_comm p q x y t.c3 (fun e => h (by rw [e])))
  | .e, .a _, x, y, t, h => rfl
  | .e, .b _, x, y, t, h => rfl
  | .e, .c _, x, y, t, h => rfl
  | .e, .d _, x, y, t, h => rfl
  | .a _, .e, x, y, t, h => rfl
  | .a _, .b _, x, y, t, h => rfl
  | .a _, .c _, x, y, t, h => rfl
  | .a _, .d _, x, y, t, h => rfl
  | .b _, .e, x, y, t, h => rfl
  | .b _, .a _, x, y, t, h => rfl
  | .b _, .c _, x, y, t, h => rfl
  | .b _, .d _, x, y, t, h => rfl
  | .c _, .e, x, y, t, h => rfl
  | .c _, .a _, x, y, t, h => rfl
  | .c _, .b _, x, y, t, h => rfl
  | .c _, .d _, x, y, t, h => rfl
  | .d _, .e, x, y, t, h => rfl
  | .d _, .a _, x, y, t, h => rfl
  | .d _, .b _, x, y, t, h => rfl
  | .d _, .c _, x, y, t, h => rfl
theorem pathOf_ne {n m : Nat} (h : n ≠ m) : pathOf n ≠ pathOf m := by
  intro e
  have h1 := get_putP (α := Unit) .nil n m (some ())
  have h2 : (putP (pathOf n) (some ()) (.nil : Tr Unit)).get m = some () := by
    unfold get
    rw [← e]
    have := get_putP (α := Unit) .nil n n (some ())
    rw [if_pos rfl] at this
    exact this
  rw [h2, if_neg (fun q => h q.symm)] at h1
  have : (.nil : Tr Unit).get m = none := getP_nil _
  rw [this] at h1
  cases h1
theorem upd_puts_ne : ∀ (l : List α) (t : Tr α) (n m : Nat) (v : α), m < n → (t.puts n l).upd m v = (t.upd m v).puts n l
  | [], t, n, m, v, h => rfl
  | x :: l, t, n, m, v, h => by
    show ((t.put 34 n x).puts (n + 1) l).upd m v = ((t.upd m v).put 34 n x).puts (n + 1) l
    rw [upd_puts_ne l _ _ _ _ (by omega)]
    congr 1
    exact putP_comm _ _ _ _ _ (pathOf_ne (by omega))
theorem upd_puts : ∀ (l : List α) (t : Tr α) (n k : Nat) (v : α), k < l.length → (t.puts n l).upd (n + k) v = t.puts n (l.set k v)
  | [], t, n, k, v, h => by simp at h
  | x :: l, t, n, 0, v, h => by
    show ((t.put 34 n x).puts (n + 1) l).upd (n + 0) v = (t.put 34 n v).puts (n + 1) l
    rw [upd_puts_ne l _ _ _ _ (by omega)]
    congr 1
    exact putP_twice _ _ _ _
  | x :: l, t, n, k + 1, v, h => by
    show ((t.put 34 n x).puts (n + 1) l).upd (n + (k + 1)) v = (t.put 34 n x).puts (n + 1) (l.set k v)
    rw [show n + (k + 1) = n + 1 + k by omega]
    exact upd_puts l _ _ _ _ (by simpa using h)
end Tr
namespace K
/-- a new object on top -/
def al (H : Hp) (l : List AV) (el fl : Nat) : Hp := ⟨H.h.put 34 H.next (.cells (Tr.puts .nil 0 l) 0 l.length el fl), H.next + 1⟩
theorem newCells_al {H : Hp} {l : List AV} {el fl : Nat} (h : l.length ≤ 16777216) : newCells H l el fl = some (H.next, al H l el fl) := by
  unfold newCells alloc
  have : Nat.ble l.length 16777216 = true := Nat.ble_eq.mpr h
  rw [this]; rfl
theorem al_nx (H : Hp) (l : List AV) (el fl : Nat) : (al H l el fl).next = H.next + 1 := Eq.trans rfl (id rfl)
theorem al_get (H : Hp) (l : List AV) (el fl i : Nat) : (al H l el fl).h.get i = if i = H.next then some (.cells (Tr.puts .nil 0 l) 0 l.length el fl) else H.h.get i := Tr.get_putP _ _ _ _
theorem al_cs (H : Hp) (l : List AV) (el fl : Nat) : Cs (al H l el fl) H.next l el fl := by
  refine ⟨Nat.lt_succ_self _, Tr.puts .nil 0 l, by rw [al_get, if_pos rfl], fun k v hk => ?_⟩
  have := (List.getElem?_eq_some_iff.1 hk).1
  rw [get_puts_k, if_pos (by omega)]; exact hk
theorem al_out (H : Hp) (l : List AV) (el fl : Nat) : Out [] H (al H l el fl) := ⟨Nat.le_succ _, fun j hj _ => by rw [al_get, if_neg (by omega)]⟩
theorem Out.al {S : List Nat} {H H' : Hp} (h : Out S H H') (l : List AV) (el fl : Nat) : Out S H (al H' l el fl) := h.then (al_out H' l el fl) fun j hj => by cases hj
theorem cellAt_of {H H' : Hp} {i o : Nat} (h : H'.h.get i = H.h.get i) : cellAt H' i o = cellAt H i o := by unfold cellAt; rw [h]
theorem cellsAt_of {H H' : Hp} {i : Nat} (h : H'.h.get i = H.h.get i) : ∀ (n o : Nat), cellsAt H' i o n = cellsAt H i o n
  | 0, o => rfl
  | n + 1, o => by unfold cellsAt; rw [cellAt_of h, cellsAt_of h n]
theorem cellAt_al {H : Hp} {l : List AV} {el fl i o : Nat} (h : i = H.next) : cellAt (al H l el fl) i o = l[o]? := by
  subst h
  cases hv : l[o]? with
  | some v => exact (al_cs H l el fl).cellAt hv
  | none =>
    unfold cellAt
    rw [al_get, if_pos rfl]
    have := List.getElem?_eq_none_iff.1 hv
    have hb : (Nat.ble 0 o && Nat.blt o l.length) = false := by
      rw [Bool.and_eq_false_iff]; right
      rw [← Bool.not_eq_true, Nat.blt_eq]; omega
    simp only [hb, cond_false]
theorem cellAt_al_ne {H : Hp} {l : List AV} {el fl i o : Nat} (h : i < H.next) : cellAt (al H l el fl) i o = cellAt H i o := cellAt_of (by rw [al_get, if_neg (by omega)])
theorem cellsAt_al {H : Hp} {l : List AV} {el fl i o n : Nat} (h : i = H.next) (hn : o + n ≤ l.length) : cellsAt (al H l el fl) i o n = some ((l.drop o).take n) := by
  subst h; exact (al_cs H l el fl).cellsAt n o hn
theorem cellsAt_al_ne {H : Hp} {l : List AV} {el fl i o n : Nat} (h : i < H.next) : cellsAt (al H l el fl) i o n = cellsAt H i o n := cellsAt_of (by rw [al_get, if_neg (by omega)]) _ _
theorem Out.cellAt {S : List Nat} {H H' : Hp} (h : Out S H H') {i o : Nat} (hi : i < H.next) (hs : i ∉ S) : cellAt H' i o = Am.cellAt H i o := cellAt_of (h.2 i hi hs)
theorem Out.cellsAt {S : List Nat} {H H' : Hp} (h : Out S H H') {i o n : Nat} (hi : i < H.next) (hs : i ∉ S) : cellsAt H' i o n = Am.cellsAt H i o n := cellsAt_of (h.2 i hi hs) _ _
theorem ld_p (i o : Nat) (H : Hp) : ld (.ptr i o) H = cellAt H i o := Eq.trans rfl (id rfl)
theorem lda_p (n i o : Nat) (H : Hp) : lda n (.ptr i o) H = (cellsAt H i o n).map .agg := Eq.trans rfl (id rfl)
/-- cells set, one behind the other -/
def setR (l : List AV) (o : Nat) : List AV → List AV
  | [] => l
  | v :: vs => setR (l.set o v) (o + 1) vs
theorem setR_len : ∀ (vs l : List AV) (o : Nat), (setR l o vs).length = l.length
  | [], l, o => rfl
  | v :: vs, l, o => by rw [setR, setR_len vs, List.length_set]
theorem setR_get : ∀ (vs l : List AV) (o k : Nat), o + vs.length ≤ l.length → (setR l o vs)[k]? = if o ≤ k ∧ k < o + vs.length then vs[k - o]? else l[k]?
  | [], l, o, k, h => by rw [if_neg (by simp only [List.length_nil]; omega)]; rfl
  | v :: vs, l, o, k, h => by
    simp only [List.length_cons] at h ⊢
    rw [setR, setR_get vs _ _ _ (by rw [List.length_set]; omega)]
    by_cases h1 : o + 1 ≤ k ∧ k < o + 1 + vs.length
    · rw [if_pos h1, if_pos (by omega), show k - o = (k - (o + 1)) + 1 by omega, List.getElem?_cons_succ]
    · rw [if_neg h1]
      by_cases h2 : k = o
      · subst h2
        rw [if_pos (by omega), Nat.sub_self, List.getElem?_set_self (by omega)]; rfl
      · rw [if_neg (by omega), List.getElem?_set_ne (fun q => h2 q.symm)]
theorem setR_all (vs l : List AV) (h : vs.length = l.length) : setR l 0 vs = vs := by
  apply List.ext_getElem?
  intro k
  rw [setR_get vs l 0 k (by omega)]
  split
  · rw [Nat.sub_zero]
  · rename_i hn
    rw [List.getElem?_eq_none (by omega), List.getElem?_eq_none (by omega)]
theorem setCell_al {H : Hp} {l : List AV} {el fl i o : Nat} {v : AV} (h : i = H.next) (hf : fl ≤ 1) (ho : o < l.length) (hv : oneC v = true) : setCell (al H l el fl) i o v = some (al H (l.set o v) el fl) := by
  subst h
  have hs : ((Tr.puts .nil 0 l).get o).isSome = true := by rw [get_puts_k, if_pos (by omega)]; simp [ho]
  have hb : (Nat.ble 0 o && Nat.blt o l.length && Nat.ble fl 1 && ((Tr.puts .nil 0 l).get o).isSome && oneC v) = true := by
    simp only [Bool.and_eq_true, Nat.ble_eq, Nat.blt_eq]; exact ⟨⟨⟨⟨by omega, ho⟩, hf⟩, hs⟩, hv⟩
  unfold setCell
  rw [al_get, if_pos rfl]
  simp only [hb, cond_true]
  have e1 : (Tr.puts .nil 0 l).upd o v = Tr.puts .nil 0 (l.set o v) := by
    have := Tr.upd_puts l .nil 0 o v ho
    rw [Nat.zero_add] at this; exact this
  rw [e1]
  unfold al
  congr 2
  rw [List.length_set]
  exact Tr.putP_twice _ _ _ _
theorem setCells_al {H : Hp} {el fl i : Nat} (h : i = H.next) (hf : fl ≤ 1) : ∀ (vs l : List AV) (o : Nat), o + vs.length ≤ l.length → (∀ v ∈ vs, oneC v = true) → setCells (al H l el fl) i o vs = some (al H (setR l o vs) el fl)
  | [], l, o, _, _ => rfl
  | v :: vs, l, o, hl, hv => by
    simp only [List.length_cons] at hl
    unfold setCells
    rw [setCell_al h hf (by omega) (hv v (.head _))]
    exact setCells_al h hf vs _ _ (by rw [List.length_set]; omega) fun u hu => hv u (.tail _ hu)
theorem cellsV_one {v : AV} (h : oneC v = true) : cellsV v = some [v] := by cases v <;> first | rfl | cases h
theorem cellsV_agg (l : List AV) : cellsV (.agg l) = some l := Eq.trans rfl (id rfl)
theorem st_al1 {H : Hp} {l : List AV} {el fl i o : Nat} {v : AV} (hv : oneC v = true) (h : i = H.next) (hf : fl ≤ 1) (ho : o < l.length) : st 1 (.ptr i o) v (al H l el fl) = some (al H (l.set o v) el fl) := by
  unfold st
  simp only [cellsV_one hv]
  show setCells _ i o [v] = _
  exact setCells_al h hf [v] l o (by simp only [List.length_cons, List.length_nil]; omega) fun u hu => by rw [List.mem_singleton] at hu; subst hu; exact hv
theorem st_alN {H : Hp} {l vs : List AV} {n el fl i : Nat} (hv : vs.all oneC = true) (hn : n = vs.length) (h : i = H.next) (hf : fl ≤ 1) (hl : l.length = vs.length) : st n (.ptr i 0) (.agg vs) (al H l el fl) = some (al H vs el fl) := by
  unfold st
  have : Nat.beq n vs.length = true := by subst hn; exact Nat.beq_refl _
  simp only [cellsV_agg, this, cond_true]
  rw [setCells_al h hf vs l 0 (by omega) (List.all_eq_true.1 hv), setR_all vs l hl.symm]
theorem bx_alA {H : Hp} {el : Nat} {l : List AV} (h : l.length ≤ 16777216) : bx el (.agg l) H = some (H.next, al H l el 0) := by
  unfold bx; simp only [cellsV_agg]; exact newCells_al h
theorem bx_al1 {H : Hp} {el : Nat} {v : AV} (hv : oneC v = true) : bx el v H = some (H.next, al H [v] el 0) := by
  unfold bx; simp only [cellsV_one hv]; exact newCells_al (by simp)
theorem fl_cons1 {z : List AV} {off : Nat} {v : AV} {r : List (Nat × Nat × AV)} (hv : oneC v = true) (h : off + 1 ≤ z.length) : fl z ((off, 1, v) :: r) = fl (z.set off v) r := by
  have e : z.take off ++ [v] ++ z.drop (off + 1) = z.set off v := by
    rw [List.set_eq_take_append_cons_drop, if_pos (by omega)]; simp
  show (match cellsV v with | some cs => if cs.length = 1 ∧ off + 1 ≤ z.length then fl (z.take off ++ cs ++ z.drop (off + 1)) r else none | none => none) = _
  rw [cellsV_one hv]
  simp only
  rw [if_pos ⟨rfl, h⟩, e]
theorem fl_consN {z : List AV} {off n : Nat} {l : List AV} {r : List (Nat × Nat × AV)} (hn : l.length = n) (h : off + n ≤ z.length) : fl z ((off, n, .agg l) :: r) = fl (z.take off ++ l ++ z.drop (off + n)) r := by
  show (match cellsV (.agg l) with | some cs => if cs.length = n ∧ off + n ≤ z.length then fl (z.take off ++ cs ++ z.drop (off + n)) r else none | none => none) = _
  rw [cellsV_agg]
  simp only
  rw [if_pos ⟨hn, h⟩]
theorem Rw.one {H : Hp} {es : Nat} {x : AV} {l : List AV} (h : Rw H es x l) : oneC x = true := by cases h <;> rfl
theorem Ow.oneX {H : Hp} {el es : Nat} {x : AV} {l : List AV} (h : Ow H el es x l) : oneC x = true := h.rw.one
/-- one more element behind a row of ours -/
theorem push_ok {H : Hp} {el es el2 : Nat} {z : List AV} {s : AV} {l vs : List AV} (h : Ow H el es s l) (hv : vs.all oneC = true) (hn : vs.length = es) (hes : 0 < es) (hlen : l.length + vs.length ≤ 16777216) :
    ∃ s' H', (∀ i, i = H.next → app' el es z false s (.slice i 0 1 1 true es) (al H vs el2 0) = some (s', H')) ∧ Ow H' el es s' (l ++ vs) ∧ Out (rid s) H H' ∧ (∀ j ∈ rid s', j ∈ rid s ∨ H.next ≤ j) ∧ oneC s' = true := by
  have c := al_cs H vs el2 0
  have hr : Rw (al H vs el2 0) es (.slice H.next 0 1 1 true es) vs := .mk c.ro (by rw [hn, Nat.one_mul]) (Nat.le_refl _) rfl
  have ho : Ow (al H vs el2 0) el es s l := h.out (al_out H vs el2 0) fun j hj => by simp
  obtain ⟨s', H', h1, h2, h3, h4⟩ := append_ok (z := z) ho hr (List.all_eq_true.1 hv) hes hlen
  refine ⟨s', H', fun i hi => by subst hi; exact h1, h2, ((al_out H vs el2 0).mono (S' := rid s) (fun j hj => by cases hj)).then h3 (fun j hj => .inl hj), fun j hj => (h4 j hj).imp id fun q => by rw [al_nx] at q; omega, h2.oneX⟩
theorem sls_to {s : List Nat} {m : Nat} (k : IntKind) (h : m ≤ s.length) : sls (.str s) none (some (.int k m)) = some (.str (s.take m)) := by
  unfold sls
  simp only [sliceBnd_ok (Nat.zero_le m) h (Nat.le_refl _) (Bd.no 0) (Bd.yes k m _), Option.map_some, List.drop_zero, Nat.sub_zero]
theorem sls_from {s : List Nat} {m : Nat} (k : IntKind) (h : m ≤ s.length) : sls (.str s) (some (.int k m)) none = some (.str (s.drop m)) := by
  unfold sls
  simp only [sliceBnd_ok h (Nat.le_refl _) (Nat.le_refl _) (Bd.yes k m 0) (Bd.no _), Option.map_some]
  rw [List.take_of_length_le (by rw [List.length_drop]; omega)]
theorem sls_ft {s : List Nat} {a b : Nat} (k j : IntKind) (hab : a ≤ b) (h : b ≤ s.length) : sls (.str s) (some (.int k a)) (some (.int j b)) = some (.str ((s.drop a).take (b - a))) := by
  unfold sls
  simp only [sliceBnd_ok hab h (Nat.le_refl _) (Bd.yes k a 0) (Bd.yes j b _), Option.map_some]
theorem ixs_n {s : List Nat} {i b : Nat} (k : IntKind) (h : s[i]? = some b) : ixs (.str s) (.int k i) = some (.int .u8 b) := by
  unfold ixs
  simp only
  rw [if_pos (by omega), Int.toNat_natCast, h]; rfl
theorem ixs_0 {s : List Nat} {b : Nat} (k : IntKind) (h : s[0]? = some b) : ixs (.str s) (.int k 0) = some (.int .u8 b) := ixs_n (i := 0) k h
/-- an element of a row, of whatever size -/
theorem Rw.ia {H : Hp} {es n : Nat} {x : AV} {l : List AV} (h : Rw H es x l) (hl : l.length = n * es) (hes : 0 < es) {i : Nat} (hi : i < n) : ∃ b o, (∀ k, ia es x (.int k i) = some (.ptr b o)) ∧ b ∈ rid x ∧ b < H.next ∧
    (∀ k v, l[i * es + k]? = some v → k < es → cellAt H b (o + k) = some v) ∧ cellsAt H b o es = some ((l.drop (i * es)).take es) := by
  cases h with
  | nil =>
    simp only [List.length_nil] at hl
    rcases Nat.mul_eq_zero.1 hl.symm with q | q <;> omega
  | emp =>
    simp only [List.length_nil] at hl
    rcases Nat.mul_eq_zero.1 hl.symm with q | q <;> omega
  | @mk j off m cap ex l hr hn hc he =>
    have hm : m = n := Nat.eq_of_mul_eq_mul_right hes (hn.symm.trans hl)
    subst hm
    have hle : (i + 1) * es ≤ m * es := Nat.mul_le_mul_right _ hi
    rw [Nat.add_mul, Nat.one_mul] at hle
    refine ⟨j, off + i * es, fun k => ia_s hi, by rw [rid_s he]; exact .head _, hr.1, fun k v hk _ => ?_, ?_⟩
    · rw [Nat.add_assoc]; exact hr.cellAt hk
    · have h1 := ((hr.drop (i * es) (by omega)).take es).cellsAt
      rw [List.length_take, List.length_drop, Nat.min_eq_left (by omega)] at h1
      exact h1
/-! rows of parts, each of so many cells -/
def RL (H : Hp) (es : Nat) (x : AV) (L : List (List AV)) : Prop := Rw H es x L.flatten ∧ ∀ c ∈ L, c.length = es
def OL (H : Hp) (el es : Nat) (x : AV) (L : List (List AV)) : Prop := Ow H el es x L.flatten ∧ ∀ c ∈ L, c.length = es
theorem flatten_len {es : Nat} : ∀ {L : List (List AV)}, (∀ c ∈ L, c.length = es) → L.flatten.length = L.length * es
  | [], _ => by simp
  | c :: L, h => by
    rw [List.flatten_cons, List.length_append, h c (.head _), flatten_len fun d hd => h d (.tail _ hd), List.length_cons, Nat.add_mul]; omega
theorem flatten_at {es : Nat} : ∀ {L : List (List AV)} {i : Nat} {c : List AV}, (∀ c ∈ L, c.length = es) → L[i]? = some c → (L.flatten.drop (i * es)).take es = c
  | [], i, c, _, h => by simp at h
  | a :: L, 0, c, hl, h => by
    simp only [List.getElem?_cons_zero, Option.some.injEq] at h
    subst h
    have := hl a (.head _)
    rw [Nat.zero_mul, List.drop_zero, List.flatten_cons, List.take_append_of_le_length (by omega), List.take_of_length_le (by omega)]
  | a :: L, i + 1, c, hl, h => by
    simp only [List.getElem?_cons_succ] at h
    have ha := hl a (.head _)
    rw [List.flatten_cons, Nat.add_mul, Nat.one_mul, List.drop_append, List.drop_eq_nil_of_le (by omega), List.nil_append, ha, Nat.add_sub_cancel]
    exact flatten_at (fun d hd => hl d (.tail _ hd)) h
theorem OL.rl {H : Hp} {el es : Nat} {x : AV} {L : List (List AV)} (h : OL H el es x L) : RL H es x L := ⟨h.1.rw, h.2⟩
theorem RL.out {H H' : Hp} {es : Nat} {x : AV} {L : List (List AV)} {S : List Nat} (h : RL H es x L) (k : Out S H H') (hi : ∀ j ∈ rid x, j ∉ S) : RL H' es x L := ⟨h.1.out k hi, h.2⟩
theorem RL.out0 {H H' : Hp} {es : Nat} {x : AV} {L : List (List AV)} (h : RL H es x L) (k : Out [] H H') : RL H' es x L := h.out k fun _ _ q => by cases q
theorem Rw.out0 {H H' : Hp} {es : Nat} {x : AV} {l : List AV} (h : Rw H es x l) (k : Out [] H H') : Rw H' es x l := h.out k fun _ _ q => by cases q
theorem OL.out {H H' : Hp} {el es : Nat} {x : AV} {L : List (List AV)} {S : List Nat} (h : OL H el es x L) (k : Out S H H') (hi : ∀ j ∈ rid x, j ∉ S) : OL H' el es x L := ⟨h.1.out k hi, h.2⟩
theorem RL.one {H : Hp} {es : Nat} {x : AV} {L : List (List AV)} (h : RL H es x L) : oneC x = true := h.1.one
theorem RL.len {H : Hp} {es : Nat} {x : AV} {L : List (List AV)} (h : RL H es x L) (hes : 0 < es) : lenx x = some (.int .i64 (L.length : Nat)) := by
  obtain ⟨n, h1, h2⟩ := h.1.len
  rw [flatten_len h.2] at h2
  rw [h1, Nat.eq_of_mul_eq_mul_right hes h2]
theorem RL.at {H : Hp} {es : Nat} {x : AV} {L : List (List AV)} (h : RL H es x L) (hes : 0 < es) {i : Nat} {c : List AV} (hi : L[i]? = some c) : ∃ b o, (∀ k, ia es x (.int k i) = some (.ptr b o)) ∧ b ∈ rid x ∧ b < H.next ∧ cellsAt H b o es = some c ∧ ∀ k v, c[k]? = some v → cellAt H b (o + k) = some v := by
  have hil := (List.getElem?_eq_some_iff.1 hi).1
  obtain ⟨b, o, h1, h2, h3, h4, h5⟩ := h.1.ia (flatten_len h.2) hes hil
  have hf := flatten_at h.2 hi
  rw [hf] at h5
  refine ⟨b, o, h1, h2, h3, h5, fun k v hv => ?_⟩
  have hk : k < es := by have := (List.getElem?_eq_some_iff.1 hv).1; rw [h.2 c (List.mem_of_getElem? hi)] at this; exact this
  refine h4 k v ?_ hk
  rw [← hf, List.getElem?_take, if_pos hk, List.getElem?_drop] at hv
  exact hv
theorem OL.nil (H : Hp) (el es : Nat) : OL H el es .slice0 [] := ⟨.nil, fun c hc => by cases hc⟩
theorem RL.nil (H : Hp) (es : Nat) : RL H es .slice0 [] := ⟨.nil, fun c hc => by cases hc⟩
/-- one more part -/
theorem OL.push {H : Hp} {el es el2 : Nat} {z : List AV} {s : AV} {L : List (List AV)} {vs : List AV} (h : OL H el es s L) (hv : vs.all oneC = true) (hn : vs.length = es) (hes : 0 < es) (hlen : (L.length + 1) * es ≤ 16777216) :
    ∃ s' H', (∀ i, i = H.next → app' el es z false s (.slice i 0 1 1 true es) (al H vs el2 0) = some (s', H')) ∧ OL H' el es s' (L ++ [vs]) ∧ Out (rid s) H H' ∧ (∀ j ∈ rid s', j ∈ rid s ∨ H.next ≤ j) ∧ oneC s' = true := by
  obtain ⟨s', H', h1, h2, h3⟩ := push_ok (el2 := el2) (z := z) h.1 hv hn hes (by rw [flatten_len h.2, hn]; rw [Nat.add_mul, Nat.one_mul] at hlen; exact hlen)
  refine ⟨s', H', h1, ⟨by rw [List.flatten_append]; simpa using h2, fun c hc => ?_⟩, h3⟩
  rcases List.mem_append.1 hc with hc | hc
  · exact h.2 c hc
  · rw [List.mem_singleton] at hc; subst hc; exact hn
theorem OL.one {H : Hp} {el es : Nat} {x : AV} {L : List (List AV)} (h : OL H el es x L) : ∀ c ∈ L, c.all oneC = true := fun c hc => by
  rw [List.all_eq_true]
  intro v hv
  exact h.1.one v (List.mem_flatten.2 ⟨c, hc, hv⟩)
theorem hd_drop {α : Type} {l r : List α} {i : Nat} {a : α} (h : l.drop i = a :: r) : i < l.length ∧ l[i]? = some a ∧ l.drop (i + 1) = r := by
  have h1 : i < l.length := by
    have := congrArg List.length h
    rw [List.length_drop, List.length_cons] at this; omega
  refine ⟨h1, ?_, ?_⟩
  · have := List.getElem?_drop (xs := l) (i := i) (j := 0)
    rw [h, Nat.add_zero] at this
    rw [← this]; rfl
  · have := List.drop_drop (l := l) (i := 1) (j := i)
    rw [h] at this
    rw [← this]; rfl
theorem Out.nx {S : List Nat} {H H' : Hp} (h : Out S H H') : H.next ≤ H'.next := h.1
/-- a copy: behind an empty row -/
theorem copy_ok {H : Hp} {el el2 es : Nat} {z : List AV} {x : AV} {l : List AV} (hx : Rw H es x l) (ho : ∀ v ∈ l, oneC v = true) (hes : 0 < es) (hlen : l.length ≤ 16777216) :
    ∃ s' H', app' el es z false (.slice H.next 0 0 0 true es) x (al H [] el2 0) = some (s', H') ∧ Ow H' el es s' l ∧ Out [] H H' ∧ (∀ j ∈ rid s', H.next ≤ j) := by
  have ha := al_out H [] el2 0
  obtain ⟨s', H', h1, h2, h3, h4⟩ := append_ok (z := z) (Ow.emp (H := al H [] el2 0) (el := el) (es := es) (i := H.next) (off := 0)) (hx.out0 ha) ho hes (by simpa using hlen)
  refine ⟨s', H', h1, by simpa using h2, ha.then h3 (fun j hj => by cases hj), fun j hj => ?_⟩
  rcases h4 j hj with q | q
  · cases q
  · rw [al_nx] at q; omega
theorem iar_n {n s i off z : Nat} (k : IntKind) (h : z < n) : iar n s (.ptr i off) (.int k z) = some (.ptr i (off + z * s)) := by
  unfold iar
  simp only
  rw [if_pos (by omega), Int.toNat_natCast]
theorem iar_0 {n s i off : Nat} (k : IntKind) (h : 0 < n) : iar n s (.ptr i off) (.int k 0) = some (.ptr i off) := by
  have := iar_n (s := s) (i := i) (off := off) k h
  rw [Nat.zero_mul] at this
  exact this
theorem iar_1 {n i off : Nat} (k : IntKind) (h : 1 < n) : iar n 1 (.ptr i off) (.int k 1) = some (.ptr i (off + 1)) := by
  have := iar_n (s := 1) (i := i) (off := off) k h
  exact this
theorem oneC_i (k : IntKind) (n : Int) : oneC (.int k n) = true := Eq.trans rfl (id rfl)
theorem oneC_s (s : List Nat) : oneC (.str s) = true := Eq.trans rfl (id rfl)
theorem oneC_b (b : Bool) : oneC (.bool b) = true := Eq.trans rfl (id rfl)
theorem oneC_p (i o : Nat) : oneC (.ptr i o) = true := Eq.trans rfl (id rfl)
theorem oneC_p0 : oneC .ptr0 = true := Eq.trans rfl (id rfl)
theorem oneC_sl (i o n c : Nat) (x : Bool) (es : Nat) : oneC (.slice i o n c x es) = true := Eq.trans rfl (id rfl)
theorem oneC_sl0 : oneC .slice0 = true := Eq.trans rfl (id rfl)
theorem oneC_m (i : Nat) : oneC (.map i) = true := Eq.trans rfl (id rfl)
theorem oneC_m0 : oneC .map0 = true := Eq.trans rfl (id rfl)
theorem oneC_f (f : Go.Fn) (a b : List AV) : oneC (.func f a b) = true := Eq.trans rfl (id rfl)
theorem oneC_nf : oneC .nilFunc = true := Eq.trans rfl (id rfl)
theorem oneC_ni : oneC .nilIface = true := Eq.trans rfl (id rfl)
theorem oneC_if (t : TypeId) (v : AV) : oneC (.iface t v) = true := Eq.trans rfl (id rfl)
/-- the laws, in one -/
theorem k_s : type_of% (And.intro @JN_0 (And.intro @JN_1 (And.intro @JN_2 (And.intro @JN_3 (And.intro @JN_4 (And.intro @JN_5 (And.intro @JN_6 (And.intro @JN_7 (And.intro @JN_8 (And.intro @JN_9 (And.intro @JN_10 (And.intro @JN_11 (And.intro @JN_12 (And.intro @JN_13 (And.intro @JN_14 (And.intro @JN_15 (And.intro @JN_16 (And.intro @JN_17 (And.intro @JN_18 (And.intro @JN_19 (And.intro @JN_20 (And.intro @JN_21 (And.intro @JN_22 (And.intro @JN_23 (And.intro @JN_24 (And.intro @B1_s (And.intro @B2_s (And.intro @BN_s (And.intro @CD_t (And.intro @CD_f (And.intro @GO_tt (And.intro @GO_ft (And.intro @GO_tf (And.intro @GO_ff (And.intro @GO_ut (And.intro @GO_uf (And.intro @GD2_tt (And.intro @GD2_ft (And.intro @GD2_tf (And.intro @GD2_ff (And.intro @pk_t (And.intro @pk_f (And.intro @nilA_p (And.intro @nilA_i (And.intro @fa_p (And.intro @fd_a (And.intro @ex_t (And.intro @iadd_i (And.intro @isub_i (And.intro @imul_i (And.intro @ieq_i (And.intro @ine_i (And.intro @ilt_i (And.intro @ile_i (And.intro @igt_i (And.intro @ige_i (And.intro @seq_s (And.intro @sne_s (And.intro @slt_s (And.intro @lens_s (And.intro @lenx_0 (And.intro @lenx_s (And.intro @not_b (And.intro @bb_e (And.intro @bb_n (And.intro @cv_i (And.intro @pe_00 (And.intro @pe_0p (And.intro @pe_p0 (And.intro @eqB_e @eqB_n)))))))))))))))))))))))))))))))))))))))))))))))))))))))))))))))))))))) := And.intro @JN_0 (And.intro @JN_1 (And.intro @JN_2 (And.intro @JN_3 (And.intro @JN_4 (And.intro @JN_5 (And.intro @JN_6 (And.intro @JN_7 (And.intro @JN_8 (And.intro @JN_9 (And.intro @JN_10 (And.intro @JN_11 (And.intro @JN_12 (And.intro @JN_13 (And.intro @JN_14 (And.intro @JN_15 (And.intro @JN_16 (And.intro @JN_17 (And.intro @JN_18 (And.intro @JN_19 (And.intro @JN_20 (And.intro @JN_21 (And.intro @JN_22 (And.intro @JN_23 (And.intro @JN_24 (And.intro @B1_s (And.intro @B2_s (And.intro @BN_s (And.intro @CD_t (And.intro @CD_f (And.intro @GO_tt (And.intro @GO_ft (And.intro @GO_tf (And.intro @GO_ff (And.intro @GO_ut (And.intro @GO_uf (And.intro @GD2_tt (And.intro @GD2_ft (And.intro @GD2_tf (And.intro @GD2_ff (And.intro @pk_t (And.intro @pk_f (And.intro @nilA_p (And.intro @nilA_i (And.intro @fa_p (And.intro @fd_a (And.intro @ex_t (And.intro @iadd_i (And.intro @isub_i (And.intro @imul_i (And.intro @ieq_i (And.intro @ine_i (And.intro @ilt_i (And.intro @ile_i (And.intro @igt_i (And.intro @ige_i (And.intro @seq_s (And.intro @sne_s (And.intro @slt_s (And.intro @lens_s (And.intro @lenx_0 (And.intro @lenx_s (And.intro @not_b (And.intro @bb_e (And.intro @bb_n (And.intro @cv_i (And.intro @pe_00 (And.intro @pe_0p (And.intro @pe_p0 (And.intro @eqB_e @eqB_n)))))))))))))))))))))))))))))))))))))))))))))))))))))))))))))))))))))
theorem k_a : type_of% (And.intro @iar_0 (And.intro @iar_1 (And.intro @newCells_al (And.intro @al_nx (And.intro @ld_p (And.intro @lda_p (And.intro @cellAt_al (And.intro @cellAt_al_ne (And.intro @cellsAt_al (And.intro @cellsAt_al_ne (And.intro @st_al1 (And.intro @st_alN (And.intro @bx_alA (And.intro @bx_al1 (And.intro @fl_nil (And.intro @fl_cons1 @fl_consN)))))))))))))))) := And.intro @iar_0 (And.intro @iar_1 (And.intro @newCells_al (And.intro @al_nx (And.intro @ld_p (And.intro @lda_p (And.intro @cellAt_al (And.intro @cellAt_al_ne (And.intro @cellsAt_al (And.intro @cellsAt_al_ne (And.intro @st_al1 (And.intro @st_alN (And.intro @bx_alA (And.intro @bx_al1 (And.intro @fl_nil (And.intro @fl_cons1 @fl_consN)))))))))))))))
theorem k_d : type_of% (And.intro @oneC_i (And.intro @oneC_s (And.intro @oneC_b (And.intro @oneC_p (And.intro @oneC_p0 (And.intro @oneC_sl (And.intro @oneC_sl0 (And.intro @oneC_m (And.intro @oneC_m0 (And.intro @oneC_f (And.intro @oneC_nf (And.intro @oneC_ni (And.intro @oneC_if @al_nx))))))))))))) := And.intro @oneC_i (And.intro @oneC_s (And.intro @oneC_b (And.intro @oneC_p (And.intro @oneC_p0 (And.intro @oneC_sl (And.intro @oneC_sl0 (And.intro @oneC_m (And.intro @oneC_m0 (And.intro @oneC_f (And.intro @oneC_nf (And.intro @oneC_ni (And.intro @oneC_if @al_nx))))))))))))
theorem k_x : (∀ (a : AV) (l : List AV), (a :: l)[0]? = some a) ∧ (∀ (a : AV) (l : List AV) (i : Nat), (a :: l)[i + 1]? = l[i]?) ∧ (∀ n : Nat, 0 + n = n) ∧ ((!true) = false) ∧ ((!false) = true) ∧ (∀ h : Decidable True, @decide True h = true) ∧ (∀ h : Decidable False, @decide False h = false) ∧ (∀ a : Int, (a == a) = true) ∧ (∀ a : List Nat, (a == a) = true) ∧ (∀ a : Int, (a != a) = false) ∧ (∀ a : List Nat, (a != a) = false) ∧ (∀ a b : Int, (a ≥ b) = (b ≤ a)) ∧ (∀ a b : Int, (a > b) = (b < a)) :=
  ⟨fun _ _ => rfl, fun _ _ _ => rfl, Nat.zero_add, rfl, rfl, fun _ => decide_eq_true trivial, fun _ => decide_eq_false id, fun _ => beq_self_eq_true _, fun _ => beq_self_eq_true _, fun _ => bne_self_eq_false _, fun _ => bne_self_eq_false _, fun _ _ => rfl, fun _ _ => rfl⟩
theorem k_b : (∀ (f : List AV → AV) (l : List AV), Option.map f (some l) = some (f l)) ∧ (∀ l : List AV, l.drop 0 = l) ∧ (∀ (n : Nat) (a : AV) (l : List AV), (a :: l).take (n + 1) = a :: l.take n) ∧ (∀ l : List AV, l.take 0 = []) ∧ (∀ (n : Nat) (a : AV) (l : List AV), (a :: l).drop (n + 1) = l.drop n) ∧ (∀ (a b : AV) (l : List AV), (a :: l).set 0 b = b :: l) ∧ (∀ (n : Nat) (a b : AV) (l : List AV), (a :: l).set (n + 1) b = a :: l.set n b) ∧ (∀ l : List AV, [] ++ l = l) ∧ (∀ (a : AV) (l m : List AV), a :: l ++ m = a :: (l ++ m)) ∧ (∀ l : List AV, l ++ [] = l) ∧ (∀ n : Nat, n + 0 = n) :=
  ⟨fun _ _ => rfl, fun _ => rfl, fun _ _ _ => rfl, fun _ => rfl, fun _ _ _ => rfl, fun _ _ _ => rfl, fun _ _ _ _ => rfl, fun _ => rfl, fun _ _ _ => rfl, List.append_nil, fun _ => rfl⟩
theorem k_c : (∀ (H : Hp) (l : List AV) (el fl : Nat), (al H l el fl).next = H.next + 1) ∧ (∀ (a : AV) (l : List AV), (a :: l).length = l.length + 1) ∧ (([] : List AV).length = 0) ∧ (∀ (p : AV → Bool) (a : AV) (l : List AV), (a :: l).all p = (p a && l.all p)) ∧ (∀ p : AV → Bool, ([] : List AV).all p = true) ∧ (∀ b : Bool, (b && true) = b) ∧ (∀ b : Bool, (true && b) = b) ∧ (∀ b : Bool, (b && b) = b) ∧ (∀ n : Nat, 0 + n = n) ∧ (∀ n : Nat, (n ≤ n) = True) :=
  ⟨fun _ _ _ _ => rfl, fun _ _ => rfl, rfl, fun _ _ _ => rfl, fun _ => rfl, Bool.and_true, Bool.true_and, Bool.and_self, Nat.zero_add, fun n => eq_true (Nat.le_refl n)⟩
end K
end Go.Proofs.YthljbjokonglhaaGreatDoor.Am
