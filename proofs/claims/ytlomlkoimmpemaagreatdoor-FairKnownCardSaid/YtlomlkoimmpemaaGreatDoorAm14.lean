/- A law's argument, off its reading as data, in the symbolic heap (of no program). -/
import Derived.Test.YtlomlkoimmpemaaGreatDoorAm13
import Derived.Deep.Slices
set_option linter.unusedVariables false
set_option linter.unusedSimpArgs false
namespace Go.Proofs.YtlomlkoimmpemaaGreatDoor.Am
open Go.Deep
set_option linter.unusedVariables false
set_option linter.unusedSimpArgs false
namespace K
/-! A law's argument, off its reading as data, in the symbolic heap. -/
/-- a plain type -/
inductive Ty where
  | bool
  | int (k : IntKind)
  | str
  | slice (sz : Nat) (e : Ty)
  | struct (n : Nat) (fs : List (Nat × Nat × Ty))
/-- plain data -/
inductive D where
  | b (x : Bool)
  | i (x : Int)
  | s (x : List Nat)
  | row (l : List D)
  | st (l : List D)
  deriving Inhabited
/-- fields that stand one behind the other -/
def Cont : List (Nat × Nat × Ty) → Nat → Nat → Prop
  | [], a, n => a = n
  | q :: r, a, n => q.1 = a ∧ Cont r (a + q.2.1) n
theorem Cont.le : ∀ (fs : List (Nat × Nat × Ty)) (a n : Nat), Cont fs a n → a ≤ n
  | [], a, n, h => Nat.le_of_eq h
  | q :: r, a, n, h => Nat.le_trans (Nat.le_add_right _ _) (Cont.le r _ n h.2)
theorem Cont.lo : ∀ (fs : List (Nat × Nat × Ty)) (a n : Nat), Cont fs a n → ∀ q ∈ fs, a ≤ q.1 ∧ q.1 + q.2.1 ≤ n
  | q :: r, a, n, h, x, hx => by
    rcases List.mem_cons.1 hx with rfl | hx
    · have := Cont.le r _ n h.2
      have := h.1
      omega
    · have := Cont.lo r _ n h.2 x hx
      omega
inductive TyOf (P : Program) : Ty → TypeId → Prop
  | bool {t : TypeId} (h : P.underlying t = some .bool) : TyOf P .bool t
  | int {t : TypeId} {k : IntKind} (h : P.underlying t = some (.int k)) : TyOf P (.int k) t
  | str {t : TypeId} (h : P.underlying t = some .string) : TyOf P .str t
  | slice {t e : TypeId} {sz : Nat} {ty : Ty} (h : P.underlying t = some (.slice e)) (hs : P.cellsOf e = sz) (h0 : 0 < sz) (he : TyOf P ty e) : TyOf P (.slice sz ty) t
  | struct {t : TypeId} {n : Nat} {fs : Array Field} {fts : List (Nat × Nat × Ty)} (h : P.underlying t = some (.struct fs)) (hn : P.cellsOf t = n) (hl : fts.length = fs.toList.length) (hc : Cont fts 0 n)
      (hf : ∀ (j : Nat) (f : Field) (q : Nat × Nat × Ty), fs.toList[j]? = some f → fts[j]? = some q → q.1 = f.offset ∧ q.2.1 = P.cellsOf f.type) (ht : ∀ (j : Nat) (f : Field) (q : Nat × Nat × Ty), fs.toList[j]? = some f → fts[j]? = some q → TyOf P q.2.2 f.type) : TyOf P (.struct n fts) t
/-- what cells of the heap tell -/
inductive Is (H : Hp) : Ty → List AV → D → Prop
  | bool (b : Bool) : Is H .bool [.bool b] (.b b)
  | int (k : IntKind) (z : Int) (h : k.min ≤ z ∧ z ≤ k.max) : Is H (.int k) [.int k z] (.i z)
  | str (s : List Nat) (h : ∀ c ∈ s, c < 256) (hl : s.length ≤ reachBytes) : Is H .str [.str s] (.s s)
  | slice {sz : Nat} {e : Ty} {x : AV} {l : List AV} {ds : List D} (hr : Rw H sz x l) (hl : l.length = ds.length * sz) (hd : ∀ (i : Nat) (d : D), ds[i]? = some d → Is H e ((l.drop (i * sz)).take sz) d) : Is H (.slice sz e) [x] (.row ds)
  | struct {n : Nat} {fs : List (Nat × Nat × Ty)} {l : List AV} {ds : List D} (hl : l.length = n) (hn : ds.length = fs.length)
      (hd : ∀ (j : Nat) (q : Nat × Nat × Ty) (d : D), fs[j]? = some q → ds[j]? = some d → Is H q.2.2 ((l.drop q.1).take q.2.1) d) : Is H (.struct n fs) l (.st ds)
theorem Is.out {H H' : Hp} {ty : Ty} {l : List AV} {d : D} {S : List Nat} (h : Is H ty l d) (k : Out S H H') (hS : ∀ j ∈ S, H.next ≤ j) : Is H' ty l d := by
  induction h with
  | bool b => exact .bool b
  | int k z h => exact .int k z h
  | str s h hl => exact .str s h hl
  | slice hr hl hd ih => exact .slice (hr.out k fun j hj q => by have := hr.lt j hj; have := hS j q; omega) hl ih
  | struct hl hn hd ih => exact .struct hl hn ih

/-- an object that stands for what an argument points to -/
structure OB where
  ao : AO
  b : Nat
  n : Nat
def Fits (e : Em) (N : Nat) (os : List OB) : Prop := N + os.length ≤ e.N ∧ ∀ j o, os[j]? = some o → e.b (N + j) = o.b ∧ e.d (N + j) = 0 ∧ e.n (N + j) = o.n
def Has (H : Hp) (N : Nat) (os : List OB) : Prop := N + os.length ≤ H.next ∧ ∀ j o, os[j]? = some o → H.h.get (N + j) = some o.ao
theorem Fits.app {e : Em} {N : Nat} {a b : List OB} (h : Fits e N (a ++ b)) : Fits e N a ∧ Fits e (N + a.length) b := by
  obtain ⟨h1, h2⟩ := h
  rw [List.length_append] at h1
  refine ⟨⟨by omega, fun j o hj => h2 j o ?_⟩, by omega, fun j o hj => ?_⟩
  · rw [List.getElem?_append_left (List.getElem?_eq_some_iff.1 hj).1]; exact hj
  · rw [Nat.add_assoc]
    exact h2 _ o (by rw [List.getElem?_append_right (by omega), Nat.add_sub_cancel_left]; exact hj)
theorem Has.app {H : Hp} {N : Nat} {a b : List OB} (h : Has H N (a ++ b)) : Has H N a ∧ Has H (N + a.length) b := by
  obtain ⟨h1, h2⟩ := h
  rw [List.length_append] at h1
  refine ⟨⟨by omega, fun j o hj => h2 j o ?_⟩, by omega, fun j o hj => ?_⟩
  · rw [List.getElem?_append_left (List.getElem?_eq_some_iff.1 hj).1]; exact hj
  · rw [Nat.add_assoc]
    exact h2 _ o (by rw [List.getElem?_append_right (by omega), Nat.add_sub_cancel_left]; exact hj)
/-- what an opening gives -/
structure Opens (W : World) (ty : Ty) (cs : List Value) (N : Nat) (l : List AV) (os : List OB) (d : D) : Prop where
  len : l.length = cs.length
  vr : ∀ e, Fits e N os → VRL e l cs
  or : ∀ e, Fits e N os → ∀ j o, os[j]? = some o → ∃ ob, W.heap[o.b]? = some ob ∧ OR e (N + j) o.ao ob
  wr : ∀ o ∈ os, wr o.ao = false
  is : ∀ H, Has H N os → Is H ty l d

section
variable {Q : Type} {enc : TypeId × Value → Q} {P : Program} {W : World} {base : Nat} {spare : Nat → Bool} {held : Bool}
/-- rows, one behind the other -/
theorem opens_list {ty : Ty} {sz : Nat} (C : Nat → List Value) (hC : ∀ i, (C i).length = sz) : ∀ (n k : Nat), (∀ i, k ≤ i → i < k + n → ∀ N, ∃ l os d, Opens W ty (C i) N l os d) → ∀ N, ∃ (L : List AV) (os : List OB) (ds : List D), L.length = n * sz ∧ ds.length = n ∧
    (∀ e, Fits e N os → VRL e L ((List.range' k n).flatMap C)) ∧ (∀ e, Fits e N os → ∀ j o, os[j]? = some o → ∃ ob, W.heap[o.b]? = some ob ∧ OR e (N + j) o.ao ob) ∧ (∀ o ∈ os, wr o.ao = false) ∧
    ∀ H, Has H N os → ∀ i d, ds[i]? = some d → Is H ty ((L.drop (i * sz)).take sz) d
  | 0, k, h, N => ⟨[], [], [], by simp, rfl, fun e _ => .nil e, fun e _ j o hj => by simp at hj, fun o ho => (by cases ho), fun H _ i d hd => by simp at hd⟩
  | n + 1, k, h, N => by
    obtain ⟨l, os, d, o1⟩ := h k (Nat.le_refl _) (by omega) N
    obtain ⟨L, os', ds, h1, h2, h3, h4, h5, h6⟩ := opens_list C hC n (k + 1) (fun i a b => h i (by omega) (by omega)) (N + os.length)
    have hl : l.length = sz := by rw [o1.len, hC]
    refine ⟨l ++ L, os ++ os', d :: ds, by rw [List.length_append, h1, hl, Nat.succ_mul]; omega, by simp [h2], fun e he => ?_, fun e he j o hj => ?_, fun o ho => ?_, fun H hH i x hx => ?_⟩
    · obtain ⟨f1, f2⟩ := he.app
      rw [List.range'_succ, List.flatMap_cons]
      exact (o1.vr e f1).append (h3 e f2)
    · obtain ⟨f1, f2⟩ := he.app
      by_cases hjl : j < os.length
      · rw [List.getElem?_append_left hjl] at hj
        exact o1.or e f1 j o hj
      · rw [List.getElem?_append_right (by omega)] at hj
        obtain ⟨ob, a, b⟩ := h4 e f2 _ o hj
        exact ⟨ob, a, by rw [show N + j = N + os.length + (j - os.length) by omega]; exact b⟩
    · exact (List.mem_append.1 ho).elim (o1.wr o) (h5 o)
    · obtain ⟨f1, f2⟩ := hH.app
      cases i with
      | zero =>
        cases hx
        rw [Nat.zero_mul, List.drop_zero, List.take_append_of_le_length (by omega), List.take_of_length_le (by omega)]
        exact o1.is H f1
      | succ i =>
        have := h6 H f2 i x (by simpa using hx)
        rw [Nat.succ_mul, Nat.add_comm, ← List.drop_drop, List.drop_left' hl]
        exact this
/-- fields, one behind the other -/
theorem opens_fields (cs : List Value) (n : Nat) (hcs : cs.length = n) : ∀ (fs : List (Nat × Nat × Ty)) (a : Nat), Cont fs a n → (∀ q ∈ fs, ∀ N, ∃ l os d, Opens W q.2.2 ((cs.drop q.1).take q.2.1) N l os d) → ∀ N, ∃ (L : List AV) (os : List OB) (ds : List D), L.length = n - a ∧ ds.length = fs.length ∧
    (∀ e, Fits e N os → VRL e L (cs.drop a)) ∧ (∀ e, Fits e N os → ∀ j o, os[j]? = some o → ∃ ob, W.heap[o.b]? = some ob ∧ OR e (N + j) o.ao ob) ∧ (∀ o ∈ os, wr o.ao = false) ∧
    ∀ H, Has H N os → ∀ (j : Nat) (q : Nat × Nat × Ty) (d : D), fs[j]? = some q → ds[j]? = some d → Is H q.2.2 ((L.drop (q.1 - a)).take q.2.1) d
  | [], a, hc, h, N => by
    have ha : a = n := hc
    refine ⟨[], [], [], by simp; omega, rfl, fun e _ => ?_, fun e _ j o hj => by simp at hj, fun o ho => (by cases ho), fun H _ j q d x => by simp at x⟩
    rw [List.drop_eq_nil_of_le (by omega)]; exact .nil e
  | q :: fs, a, hc, h, N => by
    obtain ⟨l, os, d, o1⟩ := h q (.head _) N
    obtain ⟨L, os', ds, h1, h2, h3, h4, h5, h6⟩ := opens_fields cs n hcs fs (a + q.2.1) hc.2 (fun q hq => h q (.tail _ hq)) (N + os.length)
    have hqa := hc.1
    have hle := Cont.le fs _ n hc.2
    have hl : l.length = q.2.1 := by rw [o1.len, List.length_take, List.length_drop]; omega
    refine ⟨l ++ L, os ++ os', d :: ds, by rw [List.length_append, h1, hl]; omega, by simp [h2], fun e he => ?_, fun e he j o hj => ?_, fun o ho => (List.mem_append.1 ho).elim (o1.wr o) (h5 o), fun H hH j q' d' x y => ?_⟩
    · obtain ⟨f1, f2⟩ := he.app
      have := (o1.vr e f1).append (h3 e f2)
      rw [hqa, ← List.drop_drop, List.take_append_drop] at this
      exact this
    · obtain ⟨f1, f2⟩ := he.app
      by_cases hjl : j < os.length
      · rw [List.getElem?_append_left hjl] at hj
        exact o1.or e f1 j o hj
      · rw [List.getElem?_append_right (by omega)] at hj
        obtain ⟨ob, a, b⟩ := h4 e f2 _ o hj
        exact ⟨ob, a, by rw [show N + j = N + os.length + (j - os.length) by omega]; exact b⟩
    · obtain ⟨f1, f2⟩ := hH.app
      cases j with
      | zero =>
        cases x; cases y
        rw [hqa, Nat.sub_self, List.drop_zero, List.take_append_of_le_length (by omega), List.take_of_length_le (by omega)]
        exact o1.is H f1
      | succ j =>
        have x' : fs[j]? = some q' := by simpa using x
        have := h6 H f2 j q' d' x' (by simpa using y)
        have hlo := (Cont.lo fs _ n hc.2 q' (List.mem_of_getElem? x')).1
        rw [show q'.1 - a = l.length + (q'.1 - (a + q.2.1)) by omega, ← List.drop_drop, List.drop_left]
        exact this
theorem range'_get {α : Type} (C : Nat → List α) {sz : Nat} (hC : ∀ i, (C i).length = sz) : ∀ (n k j r : Nat), j < n → r < sz → ((List.range' k n).flatMap C)[j * sz + r]? = (C (k + j))[r]?
  | 0, k, j, r, h, _ => by omega
  | n + 1, k, j, r, h, hr => by
    rw [List.range'_succ, List.flatMap_cons]
    cases j with
    | zero => rw [Nat.zero_mul, Nat.zero_add, List.getElem?_append_left (by rw [hC]; exact hr), Nat.add_zero]
    | succ j =>
      rw [Nat.succ_mul, List.getElem?_append_right (by rw [hC]; omega), hC, show j * sz + sz + r - sz = j * sz + r by omega, range'_get C hC n (k + 1) j r (by omega) hr]
      congr 2; omega
theorem addr_add2 (b off m n : Nat) : ((⟨b, off, none⟩ : Addr).add m).add n = ⟨b, off + m + n, none⟩ := by
  unfold Addr.add
  by_cases hm : m = 0 <;> by_cases hn : n = 0 <;> simp [hm, hn]
theorem w_all {e : TypeId} {k : Nat} {d : DataW Q} : ∀ {l : List (DataW Q)}, d ∈ l → k ∈ d.weights P e → k ∈ DataW.weightsAll P e l
  | x :: l, h, hk => by
    rw [DataW.weightsAll]
    rcases List.mem_cons.1 h with rfl | h
    · exact List.mem_append_left _ hk
    · exact List.mem_append_right _ (w_all h hk)
theorem w_each {k : Nat} {d : DataW Q} {t : TypeId} : ∀ {ts : List TypeId} {ds : List (DataW Q)} {j : Nat}, ts[j]? = some t → ds[j]? = some d → k ∈ d.weights P t → k ∈ DataW.weightsEach P ts ds
  | [], ds, j, h, _, _ => by simp at h
  | t0 :: ts, [], j, _, h, _ => by simp at h
  | t0 :: ts, d0 :: ds, 0, h1, h2, hk => by
    rw [DataW.weightsEach]
    cases h1; cases h2
    exact List.mem_append_left _ hk
  | t0 :: ts, d0 :: ds, j + 1, h1, h2, hk => by
    rw [DataW.weightsEach]
    exact List.mem_append_right _ (w_each (j := j) (by simpa using h1) (by simpa using h2) hk)
/-- a reading of plain data, opened -/
theorem open_data (hsp : ∀ b, spare b = true) {ty : Ty} {t : TypeId} (ht : TyOf P ty t) : ∀ (fuel : Nat) (cs : List Value) (x : DataW Q × List MemPlace), DataW.trod enc P W base spare held fuel t cs = some x → (∀ k ∈ x.1.weights P t, k ≤ reachBytes) → ∀ N, ∃ l os d, Opens W ty cs N l os d := by
  induction ht with
  | bool hu =>
    intro fuel cs x h hwt N
    obtain ⟨b, rfl, _⟩ := DataW.trod_bool hu h
    exact ⟨[.bool b], [], .b b, rfl, fun e _ => .cons (.bool b) (.nil e), fun e _ j o hj => by simp at hj, fun o ho => (by cases ho), fun H _ => .bool b⟩
  | @int t k hu =>
    intro fuel cs x h hwt N
    obtain ⟨z, rfl, _, hw⟩ := DataW.trod_int hu h
    refine ⟨[.int k z], [], .i z, rfl, fun e _ => .cons (.int k z) (.nil e), fun e _ j o hj => by simp at hj, fun o ho => (by cases ho), fun H _ => .int k z ?_⟩
    simpa [Lit.wf] using hw
  | str hu =>
    intro fuel cs x h hwt N
    obtain ⟨s, rfl, hxe, hs⟩ := DataW.trod_string hu h
    refine ⟨[.str (bytes s)], [], .s (bytes s), rfl, fun e _ => .cons (.str s) (.nil e), fun e _ j o hj => by simp at hj, fun o ho => (by cases ho), fun H _ => .str _ (fun c hc => ?_) ?_⟩
    · obtain ⟨u, _, rfl⟩ := List.mem_map.1 hc
      exact u.toNat_lt
    · unfold bytes; rw [List.length_map]; exact hwt _ (by rw [hxe]; simp [DataW.weights])
  | @slice t e sz ty hu hs h0 he ih =>
    intro fuel cs x h hwt N
    rcases open_slice hu h with ⟨rfl, _⟩ | ⟨a, len, cap, m, n, D', Pl, rfl, hb, hl, hm, hmm, hxe, hx⟩
    · exact ⟨[.slice0], [], .row [], rfl, fun e _ => .cons .slice0 (.nil e), fun e _ j o hj => by simp at hj, fun o ho => (by cases ho), fun H _ => .slice .nil (by simp) fun i d hd => by simp at hd⟩
    rw [hsp, if_pos rfl] at hmm
    subst hmm
    rw [hs] at hx
    by_cases hc0 : m = 0
    · subst hc0
      obtain rfl : len = 0 := by omega
      exact ⟨[.slice 0 0 0 0 true sz], [], .row [], rfl, fun e _ => .cons (.sliceE 0 0 true sz a) (.nil e), fun e _ j o hj => by simp at hj, fun o ho => (by cases ho), fun H _ => .slice .emp (by simp) fun i d hd => by simp at hd⟩
    obtain ⟨V, hV⟩ := choose_lt (α := List Value) (p := fun i cs' => W.cells? base (a.add (i * sz)) sz = some cs' ∧ DataW.trod enc P W base spare held n e cs' = some (D' i, Pl i)) (fun i hi => hx i hi)
    have hcell : ∀ i, i < m → (V i).length = sz ∧ ∀ r, r < sz → W.cell? ((a.add (i * sz)).add r) = (V i)[r]? := fun i hi => (World.cells?_some (hV i hi).1).2
    obtain ⟨b, off, sp⟩ := a
    have hspot : sp = none := by
      have h1 := (hcell 0 (by omega)).2 0 h0
      have h2 := (hcell 0 (by omega)).1
      rw [Nat.zero_mul, List.getElem?_eq_getElem (by omega)] at h1
      have e0 : ((⟨b, off, sp⟩ : Addr).add 0).add 0 = ⟨b, off, sp⟩ := by simp [Addr.add]
      rw [e0] at h1
      cases sp with
      | none => rfl
      | some y =>
        exfalso
        unfold World.cell? at h1
        split at h1
        · simp at h1
        · cases h1
    subst hspot
    have hcell2 : ∀ i r, i < m → r < sz → W.cell? ⟨b, off + i * sz + r, none⟩ = (V i)[r]? := fun i r hi hr => by
      rw [← (hcell i hi).2 r hr, addr_add2]
    have hblk : ∃ C el fz, W.heap[b]? = some (.cells C el fz) ∧ ∀ k v, W.cell? ⟨b, k, none⟩ = some v → C[k]? = some v := by
      have h1 := hcell2 0 0 (by omega) h0
      have h2 := (hcell 0 (by omega)).1
      rw [List.getElem?_eq_getElem (by omega)] at h1
      unfold World.cell? at h1
      split at h1
      · rename_i C el fz hw
        refine ⟨C, el, fz, hw, fun k v hk => ?_⟩
        unfold World.cell? at hk
        simp only [hw] at hk
        simpa using hk
      · cases h1
    obtain ⟨C, el, fz, hw, hC⟩ := hblk
    have hCm : off + m * sz ≤ C.size := by
      have h1 := hcell2 (m - 1) (sz - 1) (by omega) (by omega)
      have h2 := (hcell (m - 1) (by omega)).1
      rw [List.getElem?_eq_getElem (by omega)] at h1
      have := (Array.getElem?_eq_some_iff.1 (hC _ _ h1)).1
      have e1 : (m - 1) * sz + sz = m * sz := by rw [← Nat.succ_mul]; congr 1; omega
      omega
    have hVl : ∀ i, (if i < m then V i else List.replicate sz Value.nilFunc).length = sz := fun i => by
      split
      · exact (hcell i (by assumption)).1
      · simp
    obtain ⟨L, os, ds, o1, o2, o3, o4, o5, o6⟩ := opens_list (W := W) (ty := ty) (fun i => if i < m then V i else List.replicate sz Value.nilFunc) hVl len 0 (fun i _ hi N => by
      have him : i < m := by omega
      simp only [him, if_true]
      exact ih n (V i) _ (hV i him).2 (fun k hk => hwt k (by
        rw [hxe]
        simp only [DataW.weights, hu]
        exact .tail _ (List.mem_append_left _ (w_all (List.mem_map_of_mem (List.mem_range.2 (by omega))) hk)))) N) (N + 1)
    have hfit : ∀ e, Fits e N (⟨.cells (Tr.puts .nil off L) off (off + L.length) el 2, b, C.size⟩ :: os) → N < e.N ∧ e.b N = b ∧ e.d N = 0 ∧ e.n N = C.size ∧ Fits e (N + 1) os := by
      intro e he
      have h1 := he.2 0 _ rfl
      have h2 := (Fits.app (a := [⟨.cells (Tr.puts .nil off L) off (off + L.length) el 2, b, C.size⟩]) (b := os) he).2
      have h3 := he.1
      simp only [List.length_cons] at h3
      exact ⟨by omega, h1.1, h1.2.1, h1.2.2, h2⟩
    refine ⟨[.slice N off len m true sz], ⟨.cells (Tr.puts .nil off L) off (off + L.length) el 2, b, C.size⟩ :: os, .row ds, rfl, fun e he => ?_, fun e he j o hj => ?_, fun o ho => ?_, fun H hH => ?_⟩
    · obtain ⟨f1, f2, f3, f4, f5⟩ := hfit e he
      refine .cons ?_ (.nil e)
      have := VR.slice (e := e) N off len m true sz off m f1 (by rw [f3]; simp) hl (Nat.le_refl _) (fun _ => rfl) (by rw [f4]; exact hCm)
      rw [f2] at this
      exact this
    · obtain ⟨f1, f2, f3, f4, f5⟩ := hfit e he
      cases j with
      | zero =>
        cases hj
        refine ⟨_, hw, ?_⟩
        refine .cells _ off (off + L.length) el 2 C fz f4.symm (fun k v hk1 hk2 hk => ?_) (by simp) (by simp) (fun _ => f3)
        rw [Tr.get_putsA, if_pos ⟨hk1, hk2⟩] at hk
        obtain ⟨v', hv', hvr⟩ := (o3 e f5).get hk
        refine ⟨k, by rw [Nat.add_zero, f3]; simp, v', ?_, hvr⟩
        have hq : k - off < len * sz := by omega
        have hi : (k - off) / sz < len := Nat.div_lt_of_lt_mul (by rw [Nat.mul_comm]; exact hq)
        have hr : (k - off) % sz < sz := Nat.mod_lt _ h0
        have hd : (k - off) / sz * sz + (k - off) % sz = k - off := by rw [Nat.mul_comm]; exact Nat.div_add_mod _ _
        have h1 := range'_get _ hVl len 0 _ _ hi hr
        rw [hd, Nat.zero_add, if_pos (by omega)] at h1
        have hv'' : (List.flatMap (fun i => if i < m then V i else List.replicate sz Value.nilFunc) (List.range' 0 len))[k - off]? = some v' := hv'
        rw [h1, ← hcell2 _ _ (by omega) hr] at hv''
        have := hC _ _ hv''
        rw [show off + (k - off) / sz * sz + (k - off) % sz = k by omega] at this
        exact this
      | succ j =>
        obtain ⟨ob, h1, h2⟩ := o4 e f5 j o (by simpa using hj)
        exact ⟨ob, h1, by rw [show N + (j + 1) = N + 1 + j by omega]; exact h2⟩
    · rcases List.mem_cons.1 ho with rfl | ho
      · rfl
      · exact o5 o ho
    · have h1 := hH.2 0 _ rfl
      have h2 := (Has.app (a := [⟨.cells (Tr.puts .nil off L) off (off + L.length) el 2, b, C.size⟩]) (b := os) hH).2
      have h3 := hH.1
      simp only [List.length_cons] at h3
      refine .slice (l := L) (.mk ⟨by omega, _, _, _, _, _, h1, Nat.le_refl _, Nat.le_refl _, fun k v hk => ?_⟩ o1 hl ?_) (by rw [o1, o2]) (o6 H h2)
      · have := (List.getElem?_eq_some_iff.1 hk).1
        rw [Tr.get_putsA, if_pos ⟨by omega, by omega⟩, ← hk]
        congr 1; omega
      · rw [beq_f hc0]; rfl
  | @struct t n fs fts hu hn hl hc hf ht ih =>
    intro fuel cs x h hwt N
    obtain ⟨xs, n', _, hxe, hcl, hxl, hall⟩ := DataW.trod_struct hu h
    obtain ⟨L, os, ds, o1, o2, o3, o4, o5, o6⟩ := opens_fields (W := W) cs n (by rw [hcl, hn]) fts 0 hc (fun q hq N => by
      obtain ⟨j, hj⟩ := List.getElem?_of_mem hq
      have hjl : j < fs.toList.length := by rw [← hl]; exact (List.getElem?_eq_some_iff.1 hj).1
      have hfj : fs.toList[j]? = some fs.toList[j] := List.getElem?_eq_getElem hjl
      obtain ⟨e1, e2⟩ := hf j _ q hfj hj
      have hall' := hall j fs.toList[j] (by rw [← Array.getElem?_toList]; exact hfj)
      have hjx : j < xs.length := by rw [hxl]; simpa using hjl
      have hxj : xs[j]? = some xs[j] := List.getElem?_eq_getElem hjx
      rw [hxj] at hall'
      rw [e1, e2]
      exact ih j _ q hfj hj n' _ _ hall' (fun k hk => hwt k (by
        rw [hxe]
        simp only [DataW.weights, hu]
        exact w_each (j := j) (by rw [List.getElem?_map, hfj]; rfl) (by rw [List.getElem?_map, hxj]; rfl) hk)) N) N
    refine ⟨L, os, .st ds, by rw [o1, hcl, hn, Nat.sub_zero], fun e he => ?_, o4, o5, fun H hH => .struct (by rw [o1, Nat.sub_zero]) o2 fun j q d h1 h2 => ?_⟩
    · have := o3 e he
      rw [List.drop_zero] at this
      exact this
    · have := o6 H hH j q d h1 h2
      rw [Nat.sub_zero] at this
      exact this
/-- an argument by its cells -/
def argOf : Ty → List AV → AV
  | .struct _ _, l => .agg l
  | _, l => l.headD .junk
def isSt : Ty → Bool
  | .struct _ _ => true
  | _ => false
/-- an argument is read so -/
structure ArgOf (enc : TypeId × Value → Q) (P : Program) (W : World) (base : Nat) (spare : Nat → Bool) (held : Bool) (ty : Ty) (t : TypeId) (v : Value) : Prop where
  of : TyOf P ty t
  rd : ∃ fuel x, DataW.trod enc P W base spare held fuel t v.cells.toList = some x ∧ ∀ k ∈ x.1.weights P t, k ≤ reachBytes
  st : isSt ty = true → ∃ cs, v = .agg cs
  one : isSt ty = false → v.cells = #[v]
def IsA (H : Hp) (ty : Ty) (a : AV) (d : D) : Prop := ∃ l, a = argOf ty l ∧ Is H ty l d
inductive ArgsOf (enc : TypeId × Value → Q) (P : Program) (W : World) (base : Nat) (spare : Nat → Bool) (held : Bool) : List Ty → List Value → Prop
  | nil : ArgsOf enc P W base spare held [] []
  | cons {ty : Ty} {t : TypeId} {v : Value} {tys : List Ty} {vs : List Value} (h : ArgOf enc P W base spare held ty t v) (k : ArgsOf enc P W base spare held tys vs) : ArgsOf enc P W base spare held (ty :: tys) (v :: vs)
inductive ArgsIs (H : Hp) : List Ty → List AV → List D → Prop
  | nil : ArgsIs H [] [] []
  | cons {ty : Ty} {a : AV} {d : D} {tys : List Ty} {as' : List AV} {ds : List D} (h : IsA H ty a d) (k : ArgsIs H tys as' ds) : ArgsIs H (ty :: tys) (a :: as') (d :: ds)
theorem open_arg (hsp : ∀ b, spare b = true) {ty : Ty} {t : TypeId} {v : Value} (h : ArgOf enc P W base spare held ty t v) (N : Nat) : ∃ (a : AV) (os : List OB) (d : D), (∀ e, Fits e N os → VR e a v) ∧
    (∀ e, Fits e N os → ∀ j o, os[j]? = some o → ∃ ob, W.heap[o.b]? = some ob ∧ OR e (N + j) o.ao ob) ∧ (∀ o ∈ os, wr o.ao = false) ∧ ∀ H, Has H N os → IsA H ty a d := by
  obtain ⟨fuel, x, hx, hxw⟩ := h.rd
  obtain ⟨l, os, d, o⟩ := open_data hsp h.of fuel _ x hx hxw N
  refine ⟨argOf ty l, os, d, fun e he => ?_, o.or, o.wr, fun H hH => ⟨l, rfl, o.is H hH⟩⟩
  have hv := o.vr e he
  cases hst : isSt ty with
  | true =>
    obtain ⟨cs, rfl⟩ := h.st hst
    have : argOf ty l = .agg l := by cases ty <;> first | rfl | cases hst
    rw [this]
    have := VR.agg' hv
    simpa [Value.cells] using this
  | false =>
    have h1 := h.one hst
    rw [h1] at hv
    have hl : l.length = 1 := by rw [o.len, h1]; rfl
    match l, hl with
    | [a], _ =>
      have : argOf ty [a] = a := by cases ty <;> first | rfl | cases hst
      rw [this]
      exact hv.2 0 a v rfl rfl
theorem open_args (hsp : ∀ b, spare b = true) {tys : List Ty} {vs : List Value} (h : ArgsOf enc P W base spare held tys vs) : ∀ N, ∃ (as' : List AV) (os : List OB) (ds : List D), (∀ e, Fits e N os → VRL e as' vs) ∧
    (∀ e, Fits e N os → ∀ j o, os[j]? = some o → ∃ ob, W.heap[o.b]? = some ob ∧ OR e (N + j) o.ao ob) ∧ (∀ o ∈ os, wr o.ao = false) ∧ ∀ H, Has H N os → ArgsIs H tys as' ds := by
  induction h with
  | nil => exact fun N => ⟨[], [], [], fun e _ => .nil e, fun e _ j o hj => by simp at hj, fun o ho => (by cases ho), fun H _ => .nil⟩
  | cons h k ih =>
    intro N
    obtain ⟨a, os, d, a1, a2, a3, a4⟩ := open_arg hsp h N
    obtain ⟨as', os', ds, b1, b2, b3, b4⟩ := ih (N + os.length)
    refine ⟨a :: as', os ++ os', d :: ds, fun e he => .cons (a1 e he.app.1) (b1 e he.app.2), fun e he j o hj => ?_, fun o ho => (List.mem_append.1 ho).elim (a3 o) (b3 o), fun H hH => .cons (a4 H hH.app.1) (b4 H hH.app.2)⟩
    obtain ⟨f1, f2⟩ := he.app
    by_cases hjl : j < os.length
    · rw [List.getElem?_append_left hjl] at hj
      exact a2 e f1 j o hj
    · rw [List.getElem?_append_right (by omega)] at hj
      obtain ⟨ob, p, q⟩ := b2 e f2 _ o hj
      exact ⟨ob, p, by rw [show N + j = N + os.length + (j - os.length) by omega]; exact q⟩
/-- the objects' places -/
def poOf (N : Nat) : List OB → List (Nat × AO)
  | [] => []
  | o :: os => (N, o.ao) :: poOf (N + 1) os
theorem poOf_mem : ∀ (os : List OB) (N i : Nat) (o : AO), (i, o) ∈ poOf N os → ∃ j ob, os[j]? = some ob ∧ i = N + j ∧ o = ob.ao
  | [], N, i, o, h => by cases h
  | ob :: os, N, i, o, h => by
    rcases List.mem_cons.1 h with h | h
    · cases h; exact ⟨0, ob, rfl, rfl, rfl⟩
    · obtain ⟨j, ob', h1, h2, h3⟩ := poOf_mem os (N + 1) i o h
      exact ⟨j + 1, ob', by simpa using h1, by omega, h3⟩
theorem layP_poOf : ∀ (os : List OB) (N : Nat) (t : Tr AO) (j : Nat) (o : OB), os[j]? = some o → (layP (poOf N os) t).get (N + j) = some o.ao
  | [], N, t, j, o, h => by simp at h
  | ob :: os, N, t, 0, o, h => by
    cases h
    show (Tr.put 34 (layP (poOf (N + 1) os) t) N ob.ao).get N = _
    rw [Tr.put, Tr.get_putP, if_pos rfl]
  | ob :: os, N, t, j + 1, o, h => by
    show (Tr.put 34 (layP (poOf (N + 1) os) t) N ob.ao).get (N + (j + 1)) = _
    rw [Tr.put, Tr.get_putP, if_neg (by omega), show N + (j + 1) = N + 1 + j by omega]
    exact layP_poOf os (N + 1) t j o (by simpa using h)
theorem layP_below : ∀ (os : List OB) (N : Nat) (t : Tr AO) (i : Nat), i < N → (layP (poOf N os) t).get i = t.get i
  | [], N, t, i, h => rfl
  | ob :: os, N, t, i, h => by
    show (Tr.put 34 (layP (poOf (N + 1) os) t) N ob.ao).get i = _
    rw [Tr.put, Tr.get_putP, if_neg (by omega)]
    exact layP_below os (N + 1) t i (by omega)
theorem layO_has (el : Nat → TypeId) : ∀ (L : List (Nat × List AV)), (L.map (·.1)).Nodup → ∀ g l, (g, l) ∈ L → (layO el L).get g = some (.cells (Tr.puts .nil 0 l) 0 l.length (el g) 2)
  | [], _, g, l, h => by cases h
  | (g', l') :: L, hn, g, l, h => by
    rw [List.map_cons, List.nodup_cons] at hn
    rw [layO, Tr.put, Tr.get_putP]
    rcases List.mem_cons.1 h with h | h
    · cases h; rw [if_pos rfl]
    · rw [if_neg (fun q => hn.1 (by rw [← q]; exact List.mem_map.2 ⟨_, h, rfl⟩))]
      exact layO_has el L hn.2 g l h
end

theorem fs_nil {α β : Type} {p : α → β → Prop} : ∀ (j : Nat) (f : α) (q : β), ([] : List α)[j]? = some f → ([] : List β)[j]? = some q → p f q := fun j f q h => by simp at h
theorem fs_cons {α β : Type} {p : α → β → Prop} {a : α} {b : β} {l : List α} {m : List β} (h : p a b) (k : ∀ (j : Nat) (f : α) (q : β), l[j]? = some f → m[j]? = some q → p f q) :
    ∀ (j : Nat) (f : α) (q : β), (a :: l)[j]? = some f → (b :: m)[j]? = some q → p f q := fun j f q h1 h2 => by
  cases j with
  | zero => cases h1; cases h2; exact h
  | succ j => exact k j f q (by simpa using h1) (by simpa using h2)
theorem isA_int {H : Hp} {k : IntKind} {a : AV} {d : D} (h : IsA H (.int k) a d) : ∃ z, a = .int k z ∧ k.min ≤ z ∧ z ≤ k.max := by
  obtain ⟨l, rfl, h⟩ := h
  cases h with
  | int k z h => exact ⟨z, rfl, h⟩
theorem isA_bool {H : Hp} {a : AV} {d : D} (h : IsA H .bool a d) : ∃ z, a = .bool z := by
  obtain ⟨l, rfl, h⟩ := h
  cases h with
  | bool b => exact ⟨b, rfl⟩
theorem isA_str {H : Hp} {a : AV} {d : D} (h : IsA H .str a d) : ∃ s, a = .str s ∧ (∀ c ∈ s, c < 256) ∧ s.length ≤ reachBytes := by
  obtain ⟨l, rfl, h⟩ := h
  cases h with
  | str s h hl => exact ⟨s, rfl, h, hl⟩
/-- a row of single cells, each told by a function -/
theorem row_of {H : Hp} {e : Ty} {α : Type} (f : α → AV) (ok : α → Prop) (hf : ∀ l d, Is H e l d → ∃ z, l = [f z] ∧ ok z) {x : AV} {d : D} (h : Is H (.slice 1 e) [x] d) : ∃ b : List α, Rw H 1 x (b.map f) ∧ ∀ c ∈ b, ok c := by
  cases h with
  | @slice _ _ _ l ds hr hl hd =>
    rw [Nat.mul_one] at hl
    have key : ∀ i, i < l.length → ∃ z, l[i]? = some (f z) ∧ ok z := by
      intro i hi
      obtain ⟨z, h1, h2⟩ := hf _ _ (hd i ds[i] (List.getElem?_eq_getElem (by omega)))
      refine ⟨z, ?_, h2⟩
      have : ((l.drop (i * 1)).take 1)[0]? = some (f z) := by rw [h1]; rfl
      rw [List.getElem?_take, if_pos (by omega), List.getElem?_drop, Nat.mul_one, Nat.add_zero] at this
      exact this
    have : ∃ b : List α, l = b.map f ∧ ∀ c ∈ b, ok c := by
      clear hr hl hd
      induction l with
      | nil => exact ⟨[], rfl, fun c hc => by cases hc⟩
      | cons v l ih =>
        obtain ⟨z, h1, h2⟩ := key 0 (by simp)
        obtain ⟨b, h3, h4⟩ := ih fun i hi => by
          obtain ⟨z, a, c⟩ := key (i + 1) (by simpa using hi)
          exact ⟨z, by simpa using a, c⟩
        simp only [List.getElem?_cons_zero, Option.some.injEq] at h1
        refine ⟨z :: b, by rw [List.map_cons, h1, ← h3], fun c hc => ?_⟩
        rcases List.mem_cons.1 hc with rfl | hc
        · exact h2
        · exact h4 c hc
    obtain ⟨b, rfl, hb⟩ := this
    exact ⟨b, hr, hb⟩
theorem is_bytes {H : Hp} {x : AV} {d : D} (h : Is H (.slice 1 (.int .u8)) [x] d) : ∃ b : List Nat, Rw H 1 x (bs b) ∧ ∀ c ∈ b, c < 256 := by
  refine row_of (fun (b : Nat) => AV.int .u8 b) (fun b => b < 256) (fun l d h => ?_) h
  cases h with
  | int k z h =>
    simp only [IntKind.min, IntKind.max, IntKind.signed, IntKind.bits] at h
    refine ⟨z.toNat, by simp at h ⊢; omega, ?_⟩
    simp at h; omega
theorem isA_row {H : Hp} {e : Ty} {sz : Nat} {a : AV} {d : D} (h : IsA H (.slice sz e) a d) : Is H (.slice sz e) [a] d := by
  obtain ⟨l, rfl, h⟩ := h
  cases h with
  | slice hr hl hd => exact .slice hr hl hd
theorem isA_bytes {H : Hp} {a : AV} {d : D} (h : IsA H (.slice 1 (.int .u8)) a d) : ∃ b : List Nat, Rw H 1 a (bs b) ∧ ∀ c ∈ b, c < 256 := is_bytes (isA_row h)
end K
end Go.Proofs.YtlomlkoimmpemaaGreatDoor.Am
