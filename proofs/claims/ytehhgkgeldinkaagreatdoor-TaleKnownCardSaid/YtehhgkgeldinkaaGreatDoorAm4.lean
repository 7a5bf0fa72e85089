/- The evaluator's operations are sound, third part; regions in the order of the text (of no program). -/
import Derived.Test.YtehhgkgeldinkaaGreatDoorAm3
set_option linter.unusedVariables false
set_option linter.unusedSimpArgs false
namespace Go.Proofs.YtehhgkgeldinkaaGreatDoor.Am
set_option linter.unusedVariables false
set_option linter.unusedSimpArgs false
section
variable {P : Program} {G : Nat} {F : Nat → Prop} {W : World} {e : Em} {H : Hp} {w : World}

theorem rowZ_some {el s n : Nat} {z : List AV} (h : rowZ P el s n = some z) :
    (n * s = 0 ∧ z = []) ∨ (¬ n * s = 0 ∧ z.length = n * s ∧ ∃ inf z0, P.info? el = some inf ∧ inf.zero = some z0 ∧ z0.cells.size = s ∧ VRL e z ((Array.range (n * s)).map (z0.cells[· % z0.cells.size]!)).toList) := by
  unfold rowZ at h
  cases hb : Nat.beq (n * s) 0 with
  | true =>
    rw [hb] at h
    cases h
    exact .inl ⟨Nat.eq_of_beq_eq_true hb, rfl⟩
  | false =>
    rw [hb] at h
    simp only [cond_false] at h
    have h0 : ¬ n * s = 0 := fun q => by rw [q] at hb; cases hb
    split at h
    · rename_i z1 hz
      cases hl : Nat.beq z1.length s with
      | false => rw [hl] at h; cases h
      | true =>
        rw [hl] at h
        cases h
        have hl' : z1.length = s := Nat.eq_of_beq_eq_true hl
        obtain ⟨inf, z0, hinf, hz0, hzr⟩ := zc_some (e := e) hz
        have hsz : z0.cells.size = s := by have := hzr.1; simp at this; omega
        have hr : VRL e (rep n z1) ((Array.range (n * s)).map (z0.cells[· % z0.cells.size]!)).toList := by
          have := rows_of z0.cells n
          rw [hsz] at this
          rw [hsz, this]
          exact hzr.rep n
        refine .inr ⟨h0, ?_, inf, z0, hinf, hz0, hsz, hr⟩
        have := hr.1
        simp at this
        omega
    · cases h

theorem fillA_len {pl : Nat → Option (Nat × Nat)} : ∀ (ps : List (Nat × AV)) (cells out : List AV), fillA pl cells ps = some out → out.length = cells.length
  | [], cells, out, h => by cases h; rfl
  | (i, v) :: ps, cells, out, h => by
    unfold fillA at h
    split at h
    · cases h
    · split at h
      · cases h
      · split at h
        · rename_i hc
          rw [fillA_len ps _ _ h]
          simp; omega
        · cases h

theorem sound_buildSlice (h : RH G F W e H w) {t len : Nat} {ps : List (Nat × AV)} {ps' : Array (Nat × Value)} {v : AV} {H' : Hp} (hp : PRL e ps ps'.toList) (hb : buildSliceA P t len ps H = some (v, H')) :
    ∃ v' w' e', (Instr.buildSlice t len ps').run P w = .ok v' w' ∧ e.le e' ∧ RH G F W e' H' w' ∧ VR e' v v' := by
  unfold buildSliceA at hb
  split at hb
  · rename_i el hu
    split at hb
    · rename_i s hs
      cases hle : Nat.ble (len * s) 65536 with
      | false => rw [hle] at hb; cases hb
      | true =>
      rw [hle] at hb
      simp only [cond_true] at hb
      rw [Nat.ble_eq] at hle
      split at hb
      · rename_i z hz
        split at hb
        · rename_i cs hcs
          simp only [Option.map_eq_some_iff, Prod.mk.injEq] at hb
          obtain ⟨⟨i, H2⟩, hn, rfl, rfl⟩ := hb
          have hlen := fillA_len ps z cs hcs
          have hnot : ¬ (len * s > 2 ^ 24) := by omega
          rcases rowZ_some (P := P) (e := e) hz with ⟨h0, rfl⟩ | ⟨h0, hzl0, inf, z0, hinf, hz0, hsz, hzl⟩
          · obtain ⟨out', ho, hr⟩ := sound_fill (e := e) (pl' := fun i => some (i * s, s)) (fun i x hx => hx) ps ps'.toList [] cs #[] hp (.nil e) hcs
            obtain ⟨e', he, g1, g2, g3, g4, hrh⟩ := h.newRow (rest := []) (fz := (0, 0)) hn hr (fun _ => rfl) (by simp)
            refine ⟨.slice (some ⟨w.heap.size, 0, none⟩) len len, _, e', ?_, he, hrh, VR.slice_at g2 g1 (by rw [g3]; simp) (Nat.le_refl _) (Nat.le_refl _) (fun _ => rfl) ?_⟩
            · simp only [Instr.buildSlice, Sem.run_bind, run_und hu, Result.andThen_ok, run_sz hs, if_neg hnot]
              rw [if_pos h0]
              have hr0 : Array.range 0 = #[] := rfl
              simp [h0, hr0, ho, newRow]
            · rw [g4]; simp [h0]
          · obtain ⟨out', ho, hr⟩ := sound_fill (e := e) (pl' := fun i => some (i * s, s)) (fun i x hx => hx) ps ps'.toList z cs _ hp hzl hcs
            obtain ⟨e', he, g1, g2, g3, g4, hrh⟩ := h.newRow (rest := []) (fz := (0, 0)) hn hr (fun _ => rfl) (by simp)
            refine ⟨.slice (some ⟨w.heap.size, 0, none⟩) len len, _, e', ?_, he, hrh, VR.slice_at g2 g1 (by rw [g3]; simp) (Nat.le_refl _) (Nat.le_refl _) (fun _ => rfl) ?_⟩
            · simp only [Instr.buildSlice, Sem.run_bind, run_und hu, Result.andThen_ok, run_sz hs, if_neg hnot]
              rw [if_neg h0]
              simp [run_zero hinf hz0, newRow] at ho ⊢
              simp [ho]
            · rw [g4]
              have := hr.1
              simp at this ⊢
              omega
        · cases hb
      · cases hb
    · cases hb
  · cases hb

/-- a new row, whatever stands around -/
theorem run_makeSlice {t : Nat} {k1 k2 : IntKind} {n m : Int} {H H' : Hp} {v : AV} (hb : makeSliceA P t (.int k1 n) (.int k2 m) H = some (v, H')) (w : World) :
    ∃ el s z row, P.underlying t = some (.slice el) ∧ sz P el = some s ∧ rowZ P el s m.toNat = some z ∧ (∀ e : Em, VRL e z row) ∧ n.toNat ≤ m.toNat ∧ row.length = m.toNat * s ∧
      (Instr.makeSlice t (.int k1 n) (.int k2 m)).run P w = .ok (.slice (some ⟨w.heap.size, 0, none⟩) n.toNat m.toNat) { w with heap := w.heap.push (.cells row.toArray el (0, 0)) } := by
  unfold makeSliceA at hb
  split at hb
  · rename_i el k1' n' k2' m' hu q1 q2
    cases q1; cases q2
    split at hb
    · rename_i s hs
      split at hb
      · rename_i hcond
        obtain ⟨h1, h2, h3, h4⟩ := hcond
        split at hb
        · rename_i z hz
          obtain ⟨inf, hinf⟩ : ∃ inf, P.info? el = some inf := by
            unfold sz at hs
            cases hq : P.info? el with
            | none => simp [hq] at hs
            | some inf => exact ⟨inf, rfl⟩
          have hbyt : inf.bytes ≤ 4096 := by unfold Program.bytesOf at h4; rw [hinf] at h4; simpa using h4
          have w1 : IntKind.i64.wrap n = n := IntWalk.i64_in _ (by omega)
          have w2 : IntKind.i64.wrap m = m := IntWalk.i64_in _ (by omega)
          have hbig : ¬ ((inf.bytes : Int) * m > 2 ^ 48) := by
            have : (inf.bytes : Int) * m ≤ 4096 * 1048576 := Int.mul_le_mul (by omega) (by omega) (by omega) (by omega)
            omega
          have c1 : (decide (m < 0) || decide ((inf.bytes : Int) * m > 2 ^ 48)) = false := by simp; omega
          have hnot2 : ¬ (((decide (m < 0) || decide ((inf.bytes : Int) * m > 2 ^ 48)) || decide (n < 0) || decide (n > m)) = true) := by
            rw [c1]; simp; omega
          rcases rowZ_some (P := P) (e := ⟨id, fun _ => 0, id, 0⟩) hz with ⟨h0, rfl⟩ | ⟨h0, hzl0, inf2, z0, hinf2, hz0, hsz, hzl⟩
          · refine ⟨el, s, [], [], hu, hs, hz, fun e => .nil e, by omega, by simp [h0], ?_⟩
            simp only [Instr.makeSlice, Sem.run_bind, run_und hu, Result.andThen_ok, asInt, asIntOf, Sem.run_pure, run_inf hinf, w1, w2, if_neg hnot2, run_askRoom, run_sz hs]
            rw [if_pos h0]
            have hr0 : Array.range 0 = #[] := rfl
            simp [h0, hr0, newRow]
          · refine ⟨el, s, z, ((Array.range (m.toNat * s)).map (z0.cells[· % z0.cells.size]!)).toList, hu, hs, hz, fun e => ?_, by omega, ?_, ?_⟩
            rotate_left 2
            · simp only [Instr.makeSlice, Sem.run_bind, run_und hu, Result.andThen_ok, asInt, asIntOf, Sem.run_pure, run_inf hinf, w1, w2, if_neg hnot2, run_askRoom, run_sz hs]
              rw [if_neg h0]
              simp [run_zero hinf2 hz0, newRow]
              congr 2
              apply Array.toList_inj.1
              simp
            · rcases rowZ_some (P := P) (e := e) hz with ⟨q, _⟩ | ⟨_, _, inf3, z3, hinf3, hz3, _, hzl3⟩
              · exact absurd q h0
              · rw [hinf2] at hinf3; cases hinf3
                rw [hz0] at hz3; cases hz3
                exact hzl3
            · simp
        · cases hb
      · cases hb
    · cases hb
  · cases hb

theorem sound_makeSlice (h : RH G F W e H w) {t : Nat} {l c v : AV} {l' c' : Value} {H' : Hp} (hl : VR e l l') (hc : VR e c c') (hb : makeSliceA P t l c H = some (v, H')) :
    ∃ v' w' e', (Instr.makeSlice t l' c').run P w = .ok v' w' ∧ e.le e' ∧ RH G F W e' H' w' ∧ VR e' v v' := by
  unfold makeSliceA at hb
  split at hb
  · rename_i el k1 n k2 m hu
    cases hl.int_inv; cases hc.int_inv
    split at hb
    · rename_i s hs
      split at hb
      · rename_i hcond
        obtain ⟨h1, h2, h3, h4⟩ := hcond
        split at hb
        · rename_i z hz
          simp only [Option.map_eq_some_iff, Prod.mk.injEq] at hb
          obtain ⟨⟨i, H2⟩, hn, rfl, rfl⟩ := hb
          obtain ⟨inf, hinf⟩ : ∃ inf, P.info? el = some inf := by
            unfold sz at hs
            cases hq : P.info? el with
            | none => simp [hq] at hs
            | some inf => exact ⟨inf, rfl⟩
          have hbyt : inf.bytes ≤ 4096 := by unfold Program.bytesOf at h4; rw [hinf] at h4; simpa using h4
          have w1 : IntKind.i64.wrap n = n := IntWalk.i64_in _ (by omega)
          have w2 : IntKind.i64.wrap m = m := IntWalk.i64_in _ (by omega)
          have hbig : ¬ ((inf.bytes : Int) * m > 2 ^ 48) := by
            have : (inf.bytes : Int) * m ≤ 4096 * 1048576 := Int.mul_le_mul (by omega) (by omega) (by omega) (by omega)
            omega
          have c1 : (decide (m < 0) || decide ((inf.bytes : Int) * m > 2 ^ 48)) = false := by simp; omega
          have hnot : ¬ ((decide (m < 0) || decide ((inf.bytes : Int) * m > 2 ^ 48)) = true ∨ n < 0 ∨ n > m) := by
            rw [c1]; simp; omega
          have hnot2 : ¬ (((decide (m < 0) || decide ((inf.bytes : Int) * m > 2 ^ 48)) || decide (n < 0) || decide (n > m)) = true) := by
            rw [c1]; simp; omega
          rcases rowZ_some (P := P) (e := e) hz with ⟨h0, rfl⟩ | ⟨h0, hzl0, inf2, z0, hinf2, hz0, hsz, hzl⟩
          · obtain ⟨e', he, g1, g2, g3, g4, hrh⟩ := h.newRow (rest := []) (fz := (0, 0)) hn (.nil e) (fun _ => rfl) (by simp)
            refine ⟨.slice (some ⟨w.heap.size, 0, none⟩) n.toNat m.toNat, _, e', ?_, he, hrh, VR.slice_at g2 g1 (by rw [g3]; simp) (by omega) (Nat.le_refl _) (fun _ => rfl) (by rw [g4]; simp [h0])⟩
            simp only [Instr.makeSlice, Sem.run_bind, run_und hu, Result.andThen_ok, asInt, asIntOf, Sem.run_pure, run_inf hinf, w1, w2, if_neg hnot2, run_askRoom, run_sz hs]
            rw [if_pos h0]
            have hr0 : Array.range 0 = #[] := rfl
            simp [h0, hr0, newRow]
          · obtain ⟨e', he, g1, g2, g3, g4, hrh⟩ := h.newRow (rest := []) (fz := (0, 0)) hn hzl (fun _ => rfl) (by simp)
            refine ⟨.slice (some ⟨w.heap.size, 0, none⟩) n.toNat m.toNat, _, e', ?_, he, hrh, VR.slice_at g2 g1 (by rw [g3]; simp) (by omega) (Nat.le_refl _) (fun _ => rfl) (by rw [g4]; simp)⟩
            simp only [Instr.makeSlice, Sem.run_bind, run_und hu, Result.andThen_ok, asInt, asIntOf, Sem.run_pure, run_inf hinf, w1, w2, if_neg hnot2, run_askRoom, run_sz hs]
            rw [if_neg h0]
            simp [run_zero hinf2 hz0, newRow]
            congr 2
            apply Array.toList_inj.1
            simp
        · cases hb
      · cases hb
    · cases hb
  · cases hb

theorem RH.new (h : RH G F W e H w) {o : AO} {i : Nat} {H' : Hp} (ha : Am.alloc H o = some (i, H')) {ob : Obj} (hor : ∀ e', e.le e' → e'.d i = 0 → OR e' i o ob) :
    ∃ e', e.le e' ∧ i < e'.N ∧ e'.b i = w.heap.size ∧ e'.d i = 0 ∧ RH G F W e' H' { w with heap := w.heap.push ob } := by
  have hi0 : i = e.N := (alloc_some ha).1.trans h.N.symm
  obtain ⟨hi, hr⟩ := h.alloc (d := 0) (n := 0) ha (hor _ (Em.le_ext ..) (by rw [hi0]; exact Em.ext_d ..))
  subst hi
  exact ⟨_, Em.le_ext .., by simp [Em.ext], Em.ext_b .., Em.ext_d .., hr⟩

theorem VR.ptr_at {e : Em} {b i : Nat} (hb : e.b i = b) (hi : i < e.N) (hd : e.d i = 0) : VR e (.ptr i 0) (.pointer (some ⟨b, 0, none⟩)) := by
  subst hb; exact .ptr i 0 0 hi (by rw [hd]; simp)
theorem VR.map_at {e : Em} {b i : Nat} (hb : e.b i = b) (hi : i < e.N) : VR e (.map i) (.map (some b)) := by subst hb; exact .map i hi

theorem sound_makeMap (h : RH G F W e H w) {t : Nat} {i : Nat} {H' : Hp} (ha : Am.alloc H (.map [] 0) = some (i, H')) :
    ∃ v' w' e', (Instr.makeMap t none).run P w = .ok v' w' ∧ e.le e' ∧ RH G F W e' H' w' ∧ VR e' (.map i) v' := by
  obtain ⟨e', he, g1, g2, g3, hr⟩ := h.new (ob := .map #[] 0) ha (fun e' _ _ => .map _ _ _ ⟨rfl, by simp⟩)
  exact ⟨.map (some w.heap.size), _, e', by simp [Instr.makeMap], he, hr, .map_at g2 g1⟩

theorem sound_range (h : RH G F W e H w) {t : Nat} {x v : AV} {x' : Value} {H' : Hp} (hx : VR e x x') (hb : rangeA P t x H = some (v, H')) :
    ∃ v' w' e', (Instr.range t x').run P w = .ok v' w' ∧ e.le e' ∧ RH G F W e' H' w' ∧ VR e' v v' := by
  unfold rangeA at hb
  split at hb
  · rename_i s hu
    obtain ⟨b, rfl, rfl⟩ := hx.str_inv
    simp only [Option.map_eq_some_iff, Prod.mk.injEq] at hb
    obtain ⟨⟨i, H2⟩, hn, rfl, rfl⟩ := hb
    obtain ⟨e', he, g1, g2, g3, hr⟩ := h.new (ob := .stringIter b 0) hn (fun e' _ hd => .sit _ _ _ rfl hd)
    exact ⟨.pointer (some ⟨w.heap.size, 0, none⟩), _, e', by simp [Instr.range, run_und hu], he, hr, .ptr_at g2 g1 g3⟩
  · rename_i kt el hu
    cases hx
    simp only [Option.map_eq_some_iff, Prod.mk.injEq] at hb
    obtain ⟨⟨i, H2⟩, hn, rfl, rfl⟩ := hb
    obtain ⟨e', he, g1, g2, g3, hr⟩ := h.new (ob := .mapIter none 0 #[] 0) hn (fun e' _ hd => .mit0 _ _ _ _ _ _ hd)
    exact ⟨.pointer (some ⟨w.heap.size, 0, none⟩), _, e', by simp [Instr.range, run_und hu], he, hr, .ptr_at g2 g1 g3⟩
  · rename_i kt el m hu
    obtain ⟨hm, rfl⟩ := hx.map_inv
    split at hb
    · rename_i es c hg
      simp only [Option.map_eq_some_iff, Prod.mk.injEq] at hb
      obtain ⟨⟨i, H2⟩, hn, rfl, rfl⟩ := hb
      obtain ⟨_, es', hbm, hmer⟩ := map_at h hg
      obtain ⟨e', he, g1, g2, g3, hr⟩ := h.new (ob := .mapIter (some (e.b m)) c #[] c) hn (fun e' he' hd => by
        rw [← (he'.2 m hm).1]
        exact .mit m c [] c (Nat.lt_of_lt_of_le hm he'.1) hd)
      exact ⟨.pointer (some ⟨w.heap.size, 0, none⟩), _, e', by simp [Instr.range, run_und hu, run_getMap hbm], he, hr, .ptr_at g2 g1 g3⟩
    · cases hb
  · cases hb

theorem MER.filter {es : List ME} {es' : List MapEntry} (p : Nat → Bool) : MER e es es' → MER e (es.filter fun x => p x.born) (es'.filter fun x => p x.born) := by
  induction es generalizing es' with
  | nil => intro h; rw [h.nil_inv]; exact ⟨rfl, by simp⟩
  | cons m es ih =>
    intro h
    obtain ⟨m', r', rfl, h1, h2, h3, h4⟩ := h.cons_inv
    have := ih h4
    simp only [List.filter_cons, ← h3]
    split
    · refine ⟨by simp [this.1], fun i x y hx hy => ?_⟩
      cases i with
      | zero => simp at hx hy; subst hx; subst hy; exact ⟨h1, h2, h3⟩
      | succ i => exact this.2 i x y (by simpa using hx) (by simpa using hy)
    · exact this
theorem MER.all {es : List ME} {es' : List MapEntry} (p : Nat → Bool) : MER e es es' → (es'.all fun x => p x.born) = es.all fun x => p x.born := by
  induction es generalizing es' with
  | nil => intro h; rw [h.nil_inv]; rfl
  | cons m es ih =>
    intro h
    obtain ⟨m', r', rfl, h1, h2, h3, h4⟩ := h.cons_inv
    simp only [List.all_cons, ih h4, h3]
theorem MER.find {es : List ME} {es' : List MapEntry} (p : Nat → Bool) {m : ME} : MER e es es' → (es.find? fun x => p x.born) = some m → ∃ m', (es'.find? fun x => p x.born) = some m' ∧ VR e m.key m'.key ∧ VR e m.val m'.val := by
  induction es generalizing es' with
  | nil => intro h hf; cases hf
  | cons a es ih =>
    intro h hf
    obtain ⟨m', r', rfl, h1, h2, h3, h4⟩ := h.cons_inv
    rw [List.find?_cons] at hf ⊢
    rw [← h3]
    cases hp : p a.born with
    | true => rw [hp] at hf; cases hf; exact ⟨m', rfl, h1, h2⟩
    | false => rw [hp] at hf; exact ih h4 hf

theorem decode_small {s : ByteArray} {pos b : Nat} {r : List Nat} (h : (bytes s).drop pos = b :: r) (hb : b < 128) : pos < s.size ∧ Utf8.decode s pos = (b, 1) := by
  have hlen : ((bytes s).drop pos).length = s.size - pos := by rw [List.length_drop, bytes_len]
  rw [h] at hlen
  simp at hlen
  have hlt : pos < s.size := by omega
  refine ⟨hlt, ?_⟩
  have h0 : (bytes s)[pos]? = some b := by
    have := List.getElem?_drop (xs := bytes s) (i := pos) (j := 0)
    rw [h] at this
    simpa using this.symm
  simp only [bytes, List.getElem?_map, Option.map_eq_some_iff] at h0
  obtain ⟨u, hu, rfl⟩ := h0
  have hget : s.get! pos = u := by
    cases s with
    | mk d =>
      have hd : pos < d.size := hlt
      have := (List.getElem?_eq_some_iff.1 hu).2
      simp only [ByteArray.get!]
      rw [getElem!_pos d pos hd, ← this]
      simp
  unfold Utf8.decode
  simp only [Nat.add_zero, hget]
  rw [if_pos hb]

theorem run_setAny {b : Nat} {o ob : Obj} (hb : w.heap[b]? = some ob) (hn : ∀ c el fz, ob ≠ .cells c el fz) : (Go.setObj b o).run P w = .ok () { w with heap := w.heap.setIfInBounds b o } := by
  cases ob <;> first | (exact absurd rfl (hn _ _ _)) | (simp [Go.setObj, Sem.run, hb])
theorem run_getAny {b : Nat} {ob : Obj} (hb : w.heap[b]? = some ob) (hn : ∀ c el fz, ob ≠ .cells c el fz) : (Go.getObj b).run P w = .ok ob w := by
  cases ob <;> first | (exact absurd rfl (hn _ _ _)) | (simp [Go.getObj, Sem.run, hb])

theorem RH.setIt (h : RH G F W e H w) {i : Nat} {o o2 : AO} (hg : H.h.get i = some o) (hw : wr o = true) {ob ob2 : Obj} (hb : w.heap[e.b i]? = some ob) (hor : OR e i o2 ob2) :
    RH G F W e (Am.setObj H i o2) { w with heap := w.heap.setIfInBounds (e.b i) ob2 } := by
  have hlt := (Array.getElem?_eq_some_iff.1 hb).1
  refine h.put hg hw (ob' := ob2) (by simp) (by simp [hlt]) (fun k hk => ?_) hor rfl rfl rfl
  simp only
  rw [Array.getElem?_setIfInBounds_ne (fun q => hk q.symm)]

theorem VR.trip {a b c : AV} {a' b' c' : Value} (ha : VR e a a') (hb : VR e b b') (hc : VR e c c') : VR e (.tuple [a, b, c]) (.tuple #[a', b', c']) :=
  .tuple' (.cons ha (.cons hb (.cons hc (.nil e))))

set_option maxHeartbeats 1000000 in
theorem sound_next (h : RH G F W e H w) {t : Nat} {it v : AV} {it' : Value} {isS : Bool} {H' : Hp} (hx : VR e it it') (hb : nextA it isS H = some (v, H')) :
    ∃ v' w', (Instr.next it' isS t).run P w = .ok v' w' ∧ RH G F W e H' w' ∧ VR e v v' := by
  unfold nextA at hb
  split at hb
  · rename_i i
    obtain ⟨o, hi, ho, rfl⟩ := hx.ptr_inv
    split at hb
    · rename_i s pos hg
      obtain ⟨_, ob, hob, hor, hF⟩ := h.obj i _ hg
      cases hor with
      | sit _ _ s' hs hd =>
      have ho0 : o = 0 := by omega
      subst ho0
      have hget : (Go.getObj (e.b i)).run P w = .ok (.stringIter s' pos) w := run_getAny hob (by simp)
      split at hb
      · rename_i hdr
        cases hb
        have hlen := congrArg List.length hdr
        rw [List.length_drop, ← hs, bytes_len] at hlen
        have hge : ¬ pos < s'.size := by simp at hlen; omega
        exact ⟨_, w, by simp [Instr.next, hget, hge], h, .tuple' (.cons (.bool false) (.nil e))⟩
      · rename_i b r hdr
        cases hlt : Nat.blt b 128 with
        | false => rw [hlt] at hb; cases hb
        | true =>
          rw [hlt] at hb
          cases hb
          rw [Nat.blt_eq] at hlt
          rw [← hs] at hdr
          obtain ⟨hpos, hdec⟩ := decode_small hdr hlt
          refine ⟨_, { w with heap := w.heap.setIfInBounds (e.b i) (.stringIter s' (pos + 1)) }, ?_, h.setIt hg rfl hob (.sit _ _ _ hs hd), VR.trip (.bool true) (.int _ _) (.int _ _)⟩
          have hset : (Go.setObj (e.b i) (.stringIter s' (pos + 1))).run P w = .ok () { w with heap := w.heap.setIfInBounds (e.b i) (.stringIter s' (pos + 1)) } := run_setAny hob (by simp)
          simp only [Instr.next, Sem.run_bind, hget, Result.andThen_ok, hpos, if_true, hdec, hset]
          rfl
    · rename_i m since seen st hg
      obtain ⟨_, ob, hob, hor, hF⟩ := h.obj i _ hg
      cases hor with
      | mit _ _ _ _ hm hd =>
      have ho0 : o = 0 := by omega
      subst ho0
      have hget : (Go.getObj (e.b i)).run P w = .ok (.mapIter (some (e.b m)) since seen.toArray st) w := run_getAny hob (by simp)
      split at hb
      · rename_i es c hgm
        obtain ⟨_, es', hbm, hmer⟩ := map_at h hgm
        have hgetm : (Go.getObj (e.b m)).run P w = .ok (.map es' c) w := run_getMap hbm
        cases hchk : (!(seen.isEmpty) && !(es.isEmpty) && es.all (fun x => Nat.ble st x.born)) with
        | true => rw [hchk] at hb; cases hb
        | false =>
        rw [hchk] at hb
        simp only [cond_false] at hb
        have hfil := hmer.filter (fun b => !(seen.contains b))
        have hall := hmer.all (fun b => Nat.ble st b)
        have hchk' : ((!(seen.toArray.isEmpty)) && (!(es'.isEmpty)) && es'.all fun x => decide (x.born ≥ st)) = false := by
          have e1 : seen.toArray.isEmpty = seen.isEmpty := by simp
          have e2 : es'.isEmpty = es.isEmpty := by
            have := hmer.1
            cases es with
            | nil => simp at this ⊢; exact this
            | cons a l => simp at this ⊢; intro q; rw [q] at this; simp at this
          have e3 : (es'.all fun x => decide (x.born ≥ st)) = es.all (fun x => Nat.ble st x.born) := by
            rw [← hall, ← Array.all_toList]
            congr 1
            funext x
            rw [Bool.eq_iff_iff]
            simp
          rw [e1, e2, e3]; exact hchk
        have hleft : (es'.filter fun e => !seen.toArray.contains e.born) = (es'.toList.filter fun x => !(seen.contains x.born)).toArray := by
          apply Array.toList_inj.1
          simp
        have hchk2 : ¬ (((!(seen.toArray.isEmpty)) && (!(es'.isEmpty)) && es'.all fun x => decide (x.born ≥ st)) = true) := by rw [hchk']; simp
        split at hb
        · rename_i hnil
          cases hb
          rw [hnil] at hfil
          have hl2 := hfil.nil_inv
          refine ⟨.tuple #[.bool false], w, ?_, h, .tuple' (.cons (.bool false) (.nil e))⟩
          simp only [Instr.next, Sem.run_bind, hget, Result.andThen_ok, hgetm, if_neg hchk2, hleft, hl2]
          simp [Question.forced]
        · rename_i x hone
          cases hlt : Nat.blt x.born since with
          | false => rw [hlt] at hb; cases hb
          | true =>
            rw [hlt] at hb
            cases hb
            rw [Nat.blt_eq] at hlt
            rw [hone] at hfil
            obtain ⟨x', r', hx', k1, k2, k3, k4⟩ := hfil.cons_inv
            have hr' := k4.nil_inv
            subst hr'
            have hlt' : x'.born < since := by omega
            have hnge : ¬ since ≤ x'.born := by omega
            refine ⟨_, { w with heap := w.heap.setIfInBounds (e.b i) (.mapIter (some (e.b m)) since (seen.toArray.push x'.born) c) }, ?_, h.setIt hg rfl hob ?_, VR.trip (.bool true) k1 k2⟩
            · have hset : (Go.setObj (e.b i) (.mapIter (some (e.b m)) since (seen.toArray.push x'.born) c)).run P w = .ok () _ := run_setAny hob (by simp)
              simp only [Instr.next, Sem.run_bind, hget, Result.andThen_ok, hgetm, if_neg hchk2, hleft, hx']
              simp only [List.push_toArray] at hset
              simp [Question.forced, hlt', hnge, hset]
            · have := OR.mit (e := e) (i := i) m since (seen ++ [x.born]) c hm hd
              rw [k3] at this ⊢
              simpa using this
        · cases hb
      · cases hb
    · cases hb
  · cases hb

theorem sound_entry (h : RH G F W e H w) {it v : AV} {it' : Value} (hx : VR e it it') (hb : entryA it H = some v) :
    ∃ v', (Instr.entry it').run P w = .ok v' w ∧ VR e v v' := by
  unfold entryA at hb
  split at hb
  · rename_i i
    obtain ⟨o, hi, ho, rfl⟩ := hx.ptr_inv
    split at hb
    · rename_i m since seen st hg
      obtain ⟨_, ob, hob, hor, hF⟩ := h.obj i _ hg
      cases hor with
      | mit _ _ _ _ hm hd =>
      have ho0 : o = 0 := by omega
      subst ho0
      have hget : (Go.getObj (e.b i)).run P w = .ok (.mapIter (some (e.b m)) since seen.toArray st) w := run_getAny hob (by simp)
      split at hb
      · rename_i es c b hgm hlast
        obtain ⟨_, es', hbm, hmer⟩ := map_at h hgm
        have hgetm : (Go.getObj (e.b m)).run P w = .ok (.map es' c) w := run_getMap hbm
        cases hcs : Nat.beq c st with
        | false => rw [hcs] at hb; cases hb
        | true =>
          rw [hcs] at hb
          simp only [cond_true, Option.map_eq_some_iff] at hb
          obtain ⟨x, hf, rfl⟩ := hb
          have hcs' : c = st := Nat.eq_of_beq_eq_true hcs
          subst hcs'
          obtain ⟨x', hf', k1, k2⟩ := hmer.find (fun q => Nat.beq q b) hf
          have hback : seen.toArray.back? = some b := by simp [hlast]
          have hf2 : es'.find? (fun e => e.born == b) = some x' := by
            rw [← Array.find?_toList, ← hf']
            congr 1
            funext q
            rw [Bool.eq_iff_iff]
            simp
          refine ⟨.tuple #[x'.key, x'.val], ?_, k1.pair k2⟩
          simp [Instr.entry, hget, hback, hgetm, hf2]
      · cases hb
    · cases hb
  · cases hb

theorem sound_assert {as t : TypeId} {x v : AV} {x' : Value} {ok : Bool} (hx : VR e x x') (hb : assertA P as x ok = some v) (w : World) :
    ∃ v', (Instr.typeAssert x' t as ok).run P w = .ok v' w ∧ VR e v v' := by
  unfold assertA at hb
  split at hb
  · cases hb
  · rename_i d t2 u hne hu
    cases hx with
    | iface _ _ u' hr =>
    split at hb
    · rename_i ht
      subst ht
      have hd : ∀ ms, d ≠ .interface ms := fun ms q => hne ms q
      cases ok with
      | true =>
        cases hb
        refine ⟨.tuple #[u', .bool true], ?_, hr.pair (.bool true)⟩
        cases d <;> first | (exact absurd rfl (hd _)) | simp [Instr.typeAssert, run_und hu]
      | false =>
        cases hb
        refine ⟨u', ?_, hr⟩
        cases d <;> first | (exact absurd rfl (hd _)) | simp [Instr.typeAssert, run_und hu]
    · cases hb
  · cases hb
end
end Go.Proofs.YtehhgkgeldinkaaGreatDoor.Am
namespace Go.Proofs.YtehhgkgeldinkaaGreatDoor.Am
set_option linter.unusedVariables false
set_option linter.unusedSimpArgs false
section
variable {P : Program} {G : Nat} {F : Nat → Prop} {W : World} {e : Em} {H : Hp} {w : World}

theorem sound_build {t : TypeId} {ps : List (Nat × AV)} {ps' : Array (Nat × Value)} {v : AV} (hp : PRL e ps ps'.toList) (hb : buildA P t ps = some v) (w : World) :
    ∃ v', (Instr.build t ps').run P w = .ok v' w ∧ VR e v v' := by
  unfold buildA at hb
  split at hb
  · rename_i z fs hz hu
    split at hb
    · rename_i pl hpl
      simp only [Option.map_eq_some_iff] at hb
      obtain ⟨out, hf, rfl⟩ := hb
      exact sound_build_struct hz hu hpl hp hf w
    · cases hb
  · rename_i z n el hz hu
    split at hb
    · rename_i s hs
      simp only [Option.map_eq_some_iff] at hb
      obtain ⟨out, hf, rfl⟩ := hb
      exact sound_build_array hz hu hs hp hf w
    · cases hb
  · cases hb

theorem VRL.map_arr {ρ : Operand → AV} {σ : Operand → Value} (h : ∀ x, VR e (ρ x) (σ x)) (l : Array Operand) : VRL e (l.toList.map ρ) (l.map σ).toList := by
  rw [Array.toList_map]; exact VRL.map h _

theorem sound_builtin (h : RH G F W e H w) {b : Builtin} {argT : Array TypeId} {ty : TypeId} {cs : Array Bool} {args : List AV} {args' : Array Value} {v : AV} {H' : Hp} (ha : VRL e args args'.toList) (hb : builtinA P b argT args H = some (v, H')) :
    Res P G F W e v H' ((builtin b argT ty cs args').run P w) := by
  have two : ∀ {s x : AV}, VRL e [s, x] args'.toList → ∃ s' x', args' = #[s', x'] ∧ VR e s s' ∧ VR e x x' := by
    intro s x h2
    obtain ⟨s', r, h1, hs, hr⟩ := h2.cons_inv
    obtain ⟨x', r', rfl, hx, hr'⟩ := hr.cons_inv
    rw [hr'.nil_inv] at h1
    exact ⟨s', x', Array.toList_inj.1 h1, hs, hx⟩
  have one : ∀ {s : AV}, VRL e [s] args'.toList → ∃ s', args' = #[s'] ∧ VR e s s' := by
    intro s h2
    obtain ⟨s', r, h1, hs, hr⟩ := h2.cons_inv
    rw [hr.nil_inv] at h1
    exact ⟨s', Array.toList_inj.1 h1, hs⟩
  unfold builtinA at hb
  split at hb
  · obtain ⟨s', x', rfl, hs, hx⟩ := two ha
    obtain ⟨v', w', e', h1, h2, h3, h4⟩ := sound_append (P := P) (ty := ty) h hs hx hb
    exact Res.val h1 h2 h3 h4
  · obtain ⟨s', x', rfl, hs, hx⟩ := two ha
    obtain ⟨v', w', h1, h3, h4⟩ := sound_copy (P := P) (ty := ty) h hs hx hb
    exact Res.val h1 e.le_refl h3 h4
  · obtain ⟨s', x', rfl, hs, hx⟩ := two ha
    simp only [Option.map_eq_some_iff, Prod.mk.injEq] at hb
    obtain ⟨H2, hd, rfl, rfl⟩ := hb
    obtain ⟨w', h1, h3⟩ := sound_del (P := P) (ty := ty) h hs hx hd
    exact Res.val h1 e.le_refl h3 .undef
  · obtain ⟨s', rfl, hs⟩ := one ha
    simp only [Option.map_eq_some_iff, Prod.mk.injEq] at hb
    obtain ⟨H2, hd, rfl, rfl⟩ := hb
    obtain ⟨w', h1, h3⟩ := sound_clear (P := P) (ty := ty) h hs hd
    exact Res.val h1 e.le_refl h3 .undef
  · obtain ⟨s', rfl, hs⟩ := one ha
    simp only [Option.map_eq_some_iff, Prod.mk.injEq] at hb
    obtain ⟨v2, hd, rfl, rfl⟩ := hb
    obtain ⟨v', h1, h3⟩ := sound_len (P := P) (ty := ty) h hs hd
    exact Res.pure h h1 h3
  · obtain ⟨s', rfl, hs⟩ := one ha
    simp only [Option.map_eq_some_iff, Prod.mk.injEq] at hb
    obtain ⟨v2, hd, rfl, rfl⟩ := hb
    obtain ⟨v', h1, h3⟩ := sound_cap (P := P) (ty := ty) hs hd w
    exact Res.pure h h1 h3
  · rename_i x r
    simp only [Option.map_eq_some_iff, Prod.mk.injEq] at hb
    obtain ⟨v2, hd, rfl, rfl⟩ := hb
    obtain ⟨x', r', hargs, hx, hr⟩ := ha.cons_inv
    obtain ⟨v', h1, h3⟩ := sound_minL (P := P) (w := w) hx hr hd
    refine Res.pure h (v' := v') ?_ h3
    unfold Builtin.min_
    rw [hargs]
    exact h1
  · rename_i x r
    simp only [Option.map_eq_some_iff, Prod.mk.injEq] at hb
    obtain ⟨v2, hd, rfl, rfl⟩ := hb
    obtain ⟨x', r', hargs, hx, hr⟩ := ha.cons_inv
    obtain ⟨v', h1, h3⟩ := sound_maxL (P := P) (w := w) hx hr hd
    refine Res.pure h (v' := v') ?_ h3
    unfold Builtin.max_
    rw [hargs]
    exact h1
  · obtain ⟨s', rfl, hs⟩ := one ha
    cases hs; cases hb
    exact Res.pure h (Go.Lib.run_unsafeSliceData_nil (P := P) w argT ty 0 0) .ptr0
  · rename_i i off l c a1 a2
    obtain ⟨s', rfl, hs⟩ := one ha
    cases hl : Nat.blt 0 l with
    | false => rw [hl] at hb; cases hb
    | true =>
      rw [hl] at hb
      cases hb
      rw [Nat.blt_eq] at hl
      rcases hs.slice_inv with ⟨o, cc, hi, ho, hll, hc, hxx, hn, rfl⟩ | ⟨rfl, _, a, rfl⟩
      · exact Res.pure h (Go.Lib.run_unsafeSliceData_row (P := P) w argT ty ⟨e.b i, o, none⟩ l cc (by omega)) (.ptr _ _ _ hi ho)
      · omega
  · rename_i p k n
    obtain ⟨p', k', rfl, hp, hk⟩ := two ha
    cases hk.int_inv
    obtain ⟨v', w', h1, h3, h4⟩ := sound_unsafeStr (P := P) (ty := ty) h hp hb
    exact Res.val h1 e.le_refl h3 h4
  · cases hb

theorem sound_nil {x v : AV} {x' : Value} (hx : VR e x x') (hb : nilA x = some v) :
    v = x ∧ ((∃ a, x' = .pointer (some a)) ∨ (∃ f a b, x' = .func (.func f) a b) ∨ ∃ t u, x' = .iface t u) := by
  unfold nilA at hb
  split at hb
  · cases hb
    obtain ⟨o, _, _, rfl⟩ := hx.ptr_inv
    exact ⟨rfl, .inl ⟨_, rfl⟩⟩
  · cases hb; cases hx; exact ⟨rfl, .inr (.inl ⟨_, _, _, rfl⟩)⟩
  · cases hb; cases hx; exact ⟨rfl, .inr (.inr ⟨_, _, rfl⟩)⟩
  · cases hb
end

theorem VRO.map {e : Em} {ρ : Operand → AV} {σ : Operand → Value} (h : ∀ x, VR e (ρ x) (σ x)) : ∀ o : Option Operand, VRO e (o.map ρ) (o.map σ)
  | none => trivial
  | some x => h x

theorem PRL.map_arr {e : Em} {ρ : Operand → AV} {σ : Operand → Value} (h : ∀ x, VR e (ρ x) (σ x)) (l : Array (Nat × Operand)) :
    PRL e (l.toList.map fun (i, x) => (i, ρ x)) (l.map fun (i, x) => (i, σ x)).toList := by
  rw [Array.toList_map]; exact PRL.map h _

set_option maxHeartbeats 2000000 in
theorem opA_sound {P : Program} {G : Nat} {F : Nat → Prop} {W : World} {e : Em} {H : Hp} {w : World} (h : RH G F W e H w) {ρ : Operand → AV} {σ : Operand → Value} (hρ : ∀ x, VR e (ρ x) (σ x)) {o : Oper} {v : AV} {H' : Hp} (ha : opA P ρ o H = some (v, H')) :
    Res P G F W e v H' ((execOp σ o).run P w) := by
  unfold opA at ha
  unfold execOp
  split at ha
  · rename_i x hop
    cases ha
    rw [hop]
    exact ⟨.value (σ x), w, e, σ x, rfl, .inl rfl, e.le_refl, h, hρ x⟩
  · rename_i x hop
    cases ha
    rw [hop]
    exact ⟨.value (σ x), w, e, σ x, rfl, .inl rfl, e.le_refl, h, hρ x⟩
  · rename_i c a b hop
    rw [hop]
    split at ha
    · rename_i t ht
      cases ha
      have hc := hρ c
      rw [ht] at hc
      have hc' := hc.bool_inv
      cases t with
      | true => exact ⟨.value (σ a), w, e, σ a, by simp [hc', asBool], .inl rfl, e.le_refl, h, hρ a⟩
      | false => exact ⟨.value (σ b), w, e, σ b, by simp [hc', asBool], .inl rfl, e.le_refl, h, hρ b⟩
    · cases ha
  · rename_i t hop
    rw [hop]
    split at ha
    · rename_i l hl
      simp only [Option.map_eq_some_iff, Prod.mk.injEq] at ha
      obtain ⟨⟨i, H2⟩, hn, rfl, rfl⟩ := ha
      obtain ⟨v', w', e', h1, h2, h3, h4⟩ := sound_alloc (P := P) h hl hn
      exact Res.val h1 h2 h3 h4
    · cases ha
  · rename_i t x hop
    rw [hop]
    split at ha
    · rename_i l hl
      simp only [Option.map_eq_some_iff, Prod.mk.injEq] at ha
      obtain ⟨⟨i, H2⟩, hn, rfl, rfl⟩ := ha
      obtain ⟨v', w', e', h1, h2, h3, h4⟩ := sound_box (P := P) h (hρ x) hl hn
      exact Res.val h1 h2 h3 h4
    · cases ha
  · rename_i t parts hop
    rw [hop]
    simp only [Option.map_eq_some_iff, Prod.mk.injEq] at ha
    obtain ⟨v2, hb, rfl, rfl⟩ := ha
    obtain ⟨v', h1, h2⟩ := sound_build (PRL.map_arr hρ parts) hb w
    exact Res.pure h h1 h2
  · rename_i t len parts hop
    rw [hop]
    obtain ⟨v', w', e', h1, h2, h3, h4⟩ := sound_buildSlice (P := P) h (PRL.map_arr hρ parts) ha
    exact Res.val h1 h2 h3 h4
  · rename_i t m k x hop
    rw [hop]
    simp only [Option.map_eq_some_iff, Prod.mk.injEq] at ha
    obtain ⟨H2, hb, rfl, rfl⟩ := ha
    obtain ⟨w', h1, h3⟩ := sound_mapUpd (P := P) h (hρ m) (hρ k) (hρ x) hb
    exact Res.unit h1 e.le_refl h3
  · rename_i t m k x hop
    rw [hop]
    simp only [Option.map_eq_some_iff, Prod.mk.injEq] at ha
    obtain ⟨H2, hb, rfl, rfl⟩ := ha
    obtain ⟨w', h1, h3⟩ := sound_mapUpd (P := P) h (hρ m) (hρ k) (hρ x) hb
    exact Res.unit h1 e.le_refl h3
  · rename_i t a hop
    rw [hop]
    simp only [Option.map_eq_some_iff, Prod.mk.injEq] at ha
    obtain ⟨v2, hb, rfl, rfl⟩ := ha
    obtain ⟨v', h1, h2⟩ := sound_load h (hρ a) hb
    exact Res.pure h h1 h2
  · rename_i t a x hop
    rw [hop]
    simp only [Option.map_eq_some_iff, Prod.mk.injEq] at ha
    obtain ⟨H2, hb, rfl, rfl⟩ := ha
    obtain ⟨w', h1, h3⟩ := sound_store (P := P) h (hρ a) (hρ x) hb
    exact Res.unit h1 e.le_refl h3
  · rename_i x hop
    rw [hop]
    simp only [Option.map_eq_some_iff, Prod.mk.injEq] at ha
    obtain ⟨v2, hb, rfl, rfl⟩ := ha
    obtain ⟨rfl, h1⟩ := sound_nil (hρ x) hb
    refine ⟨.value (σ x), w, e, σ x, ?_, .inl rfl, e.le_refl, h, hρ x⟩
    rcases h1 with ⟨a, q⟩ | ⟨f, a, b, q⟩ | ⟨t, u, q⟩ <;> (simp only [q]; rfl)
  · rename_i op t x y ty hop
    rw [hop]
    cases hg : guardA P op t x y (ρ x) (ρ y) with
    | false => rw [hg] at ha; cases ha
    | true =>
      rw [hg] at ha
      simp only [cond_true, Option.map_eq_some_iff, Prod.mk.injEq] at ha
      obtain ⟨v2, hb, rfl, rfl⟩ := ha
      obtain ⟨v', h1, h2⟩ := sound_bin h (hρ x) (hρ y) hb
      have h0 := sound_guard (w := w) (hρ x) (hρ y) hg hb
      refine Res.pure h (v' := v') ?_ h2
      rw [Sem.run_bind, h0]
      exact h1
  · rename_i op t x hop
    rw [hop]
    simp only [Option.map_eq_some_iff, Prod.mk.injEq] at ha
    obtain ⟨v2, hb, rfl, rfl⟩ := ha
    obtain ⟨v', h1, h2⟩ := sound_un (P := P) (hρ x) hb w
    exact Res.pure h h1 h2
  · rename_i a b x hop
    rw [hop]
    obtain ⟨v', w', e', h1, h2, h3, h4⟩ := sound_conv (P := P) h (hρ x) ha
    exact Res.val h1 h2 h3 h4
  · rename_i t x hop
    rw [hop]
    simp only [Option.map_eq_some_iff, Prod.mk.injEq] at ha
    obtain ⟨v2, hb, rfl, rfl⟩ := ha
    unfold ifaceA at hb
    split at hb
    · cases hb
    · rename_i d hne hu
      cases hb
      have hd : ∀ ms, d ≠ .interface ms := fun ms q => hne ms q
      refine Res.pure h (v' := .iface t (σ x)) ?_ (.iface _ _ _ (hρ x))
      cases d <;> first | (exact absurd rfl (hd _)) | simp [Instr.makeInterface, run_und hu]
    · cases hb
  · rename_i fn a b hop
    rw [hop]
    simp only [Option.map_eq_some_iff, Prod.mk.injEq] at ha
    obtain ⟨v2, hb, rfl, rfl⟩ := ha
    have h1 := VRL.map_arr hρ a
    have h2 := VRL.map_arr hρ b
    unfold funcA at hb
    split at hb
    · cases hb
    · rename_i hne
      cases hb
      exact Res.pure h (v' := .func fn (a.map σ) (b.map σ)) (by simp [Instr.makeFunc]) (.func fn hne _ _ _ _ h1.1 h2.1 h1.2 h2.2)
  · rename_i t hop
    rw [hop]
    simp only [Option.map_eq_some_iff, Prod.mk.injEq] at ha
    obtain ⟨⟨i, H2⟩, hn, rfl, rfl⟩ := ha
    obtain ⟨v', w', e', h1, h2, h3, h4⟩ := sound_makeMap (P := P) (t := t) h hn
    exact Res.val h1 h2 h3 h4
  · rename_i t l c hop
    rw [hop]
    obtain ⟨v', w', e', h1, h2, h3, h4⟩ := sound_makeSlice (P := P) h (hρ l) (hρ c) ha
    exact Res.val h1 h2 h3 h4
  · rename_i t x lo hi mx hop
    rw [hop]
    simp only [Option.map_eq_some_iff, Prod.mk.injEq] at ha
    obtain ⟨v2, hb, rfl, rfl⟩ := ha
    obtain ⟨v', h1, h2⟩ := sound_slice h (hρ x) (VRO.map hρ lo) (VRO.map hρ hi) (VRO.map hρ mx) hb
    exact Res.pure h h1 h2
  · rename_i t x f hop
    rw [hop]
    simp only [Option.map_eq_some_iff, Prod.mk.injEq] at ha
    obtain ⟨v2, hb, rfl, rfl⟩ := ha
    unfold fieldAddrA at hb
    split at hb
    · rename_i fs i off hu hx
      split at hb
      · rename_i fd hfd
        cases hp : posSz P fd.type with
        | false => rw [hp] at hb; cases hb
        | true =>
          rw [hp] at hb
          cases hb
          obtain ⟨n, hn⟩ : ∃ n, sz P fd.type = some (n + 1) := by
            unfold posSz at hp
            split at hp
            · rename_i n hn; exact ⟨n, hn⟩
            · cases hp
          have hx2 := hρ x
          rw [hx] at hx2
          obtain ⟨v', h1, h2⟩ := sound_fieldAddr hx2 hu hfd hn (by omega) w
          exact Res.pure h h1 h2
      · cases hb
    · cases hb
  · rename_i t x f hop
    rw [hop]
    simp only [Option.map_eq_some_iff, Prod.mk.injEq] at ha
    obtain ⟨v2, hb, rfl, rfl⟩ := ha
    unfold fieldA at hb
    split at hb
    · rename_i fs cs hu hx
      split at hb
      · rename_i fd hfd
        obtain ⟨v', h1, h2⟩ := sound_field (hρ x) hu hfd hx hb w
        exact Res.pure h h1 h2
      · cases hb
    · cases hb
  · rename_i t x ix hop
    rw [hop]
    simp only [Option.map_eq_some_iff, Prod.mk.injEq] at ha
    obtain ⟨v2, hb, rfl, rfl⟩ := ha
    obtain ⟨v', h1, h2⟩ := sound_indexAddr (hρ x) (hρ ix) hb w
    exact Res.pure h h1 h2
  · rename_i t x ix hop
    rw [hop]
    simp only [Option.map_eq_some_iff, Prod.mk.injEq] at ha
    obtain ⟨v2, hb, rfl, rfl⟩ := ha
    obtain ⟨v', h1, h2⟩ := sound_index (hρ x) (hρ ix) hb w
    exact Res.pure h h1 h2
  · rename_i t x k ok hop
    rw [hop]
    simp only [Option.map_eq_some_iff, Prod.mk.injEq] at ha
    obtain ⟨v2, hb, rfl, rfl⟩ := ha
    obtain ⟨v', h1, h2⟩ := sound_lookup h (hρ x) (hρ k) hb
    exact Res.pure h h1 h2
  · rename_i t x hop
    rw [hop]
    obtain ⟨v', w', e', h1, h2, h3, h4⟩ := sound_range (P := P) h (hρ x) ha
    exact Res.val h1 h2 h3 h4
  · rename_i it isS hop
    rw [hop]
    obtain ⟨v', w', h1, h3, h4⟩ := sound_next (P := P) (t := o.type) h (hρ it) ha
    exact Res.val h1 e.le_refl h3 h4
  · rename_i it hop
    rw [hop]
    simp only [Option.map_eq_some_iff, Prod.mk.injEq] at ha
    obtain ⟨v2, hb, rfl, rfl⟩ := ha
    obtain ⟨v', h1, h2⟩ := sound_entry (P := P) h (hρ it) hb
    exact Res.pure h h1 h2
  · rename_i t ix hop
    rw [hop]
    split at ha
    · rename_i l hl
      simp only [Option.map_eq_some_iff, Prod.mk.injEq] at ha
      obtain ⟨v2, hb, rfl, rfl⟩ := ha
      have ht := hρ t
      rw [hl] at ht
      obtain ⟨vs, hvs, hr⟩ := ht.tuple_inv
      obtain ⟨v', hv', hvr⟩ := hr.get hb
      rw [Array.getElem?_toList] at hv'
      exact Res.pure h (v' := v') (by rw [hvs]; simp [Instr.extract, hv']) hvr
    · cases ha
  · rename_i x t as ok hop
    rw [hop]
    simp only [Option.map_eq_some_iff, Prod.mk.injEq] at ha
    obtain ⟨v2, hb, rfl, rfl⟩ := ha
    obtain ⟨v', h1, h2⟩ := sound_assert (P := P) (t := t) (hρ x) hb w
    exact Res.pure h h1 h2
  · rename_i c hop
    rw [hop]
    split at ha
    · rename_i b hc
      have hargs := VRL.map_arr hρ c.args
      have hres : (do let d ← resolve σ c o.type; invoke d.target d.args : Sem Next) = builtin b c.argTypes o.type (c.args.map fun | .const _ => true | _ => false) (c.args.map σ) := by
        unfold resolve
        rw [hc]
        rfl
      show Res P G F W e v H' ((do let d ← resolve σ c o.type; invoke d.target d.args : Sem Next).run P w)
      rw [hres]
      exact sound_builtin h hargs ha
    · cases ha
  · cases ha
end Go.Proofs.YtehhgkgeldinkaaGreatDoor.Am
namespace Go.Proofs.YtehhgkgeldinkaaGreatDoor.Am
set_option linter.unusedVariables false
set_option linter.unusedSimpArgs false
variable {P : Program}

theorem map_congr_arr {ρ ρ' : Operand → AV} {l : List Operand} (h : ∀ x ∈ l, ρ x = ρ' x) : l.map ρ = l.map ρ' := List.map_congr_left h
theorem parts_congr {ρ ρ' : Operand → AV} {l : List (Nat × Operand)} (h : ∀ x ∈ l.map (·.2), ρ x = ρ' x) : (l.map fun (i, x) => (i, ρ x)) = l.map fun (i, x) => (i, ρ' x) := by
  apply List.map_congr_left
  intro a ha
  obtain ⟨i, x⟩ := a
  simp only
  rw [h x (List.mem_map.2 ⟨(i, x), ha, rfl⟩)]

theorem opA_congr {ρ ρ' : Operand → AV} (o : Oper) (H : Hp) (h : ∀ x ∈ o.op.operands.toList, ρ x = ρ' x) : opA P ρ o H = opA P ρ' o H := by
  unfold opA
  cases hop : o.op <;> rw [hop] at h <;> simp only [Op.operands] at h ⊢
  case move x => rw [h x (by simp)]
  case assign x => rw [h x (by simp)]
  case pick c a b => rw [h c (by simp), h a (by simp), h b (by simp)]
  case box t x => rw [h x (by simp)]
  case build t ps => rw [parts_congr (by simpa using h)]
  case buildSlice t l ps => rw [parts_congr (by simpa using h)]
  case insert t m k v => rw [h m (by simp), h k (by simp), h v (by simp)]
  case mapUpdate t m k v => rw [h m (by simp), h k (by simp), h v (by simp)]
  case load t a => rw [h a (by simp)]
  case store t a v => rw [h a (by simp), h v (by simp)]
  case nilCheck x => rw [h x (by simp)]
  case binOp op t x y ty => rw [h x (by simp), h y (by simp)]
  case unOp op t x => rw [h x (by simp)]
  case convert a b x => rw [h x (by simp)]
  case makeInterface t x => rw [h x (by simp)]
  case makeFunc fn a b =>
    rw [map_congr_arr (l := a.toList) (fun x hx => h x (by simp at hx ⊢; exact .inl hx)), map_congr_arr (l := b.toList) (fun x hx => h x (by simp at hx ⊢; exact .inr hx))]
  case makeMap t r => cases r <;> rfl
  case makeSlice t l c => rw [h l (by simp), h c (by simp)]
  case slice t x lo hi mx =>
    have q : ∀ y : Option Operand, (∀ z ∈ y.toList, ρ z = ρ' z) → y.map ρ = y.map ρ' := by
      intro y hy; cases y with
      | none => rfl
      | some z => simp only [Option.map_some]; rw [hy z (by simp)]
    rw [h x (by simp), q lo (fun z hz => h z (by simp at hz ⊢; simp [hz])), q hi (fun z hz => h z (by simp at hz ⊢; simp [hz])), q mx (fun z hz => h z (by simp at hz ⊢; simp [hz]))]
  case fieldAddr t x f => rw [h x (by simp)]
  case field t x f => rw [h x (by simp)]
  case indexAddr t x ix => rw [h x (by simp), h ix (by simp)]
  case index t x ix => rw [h x (by simp), h ix (by simp)]
  case lookup t x k ok => rw [h x (by simp), h k (by simp)]
  case range t x => rw [h x (by simp)]
  case next it s => rw [h it (by simp)]
  case entry it => rw [h it (by simp)]
  case typeAssert x t as ok => rw [h x (by simp)]
  case extract t ix => rw [h t (by simp)]
  case call c =>
    cases hc : c.callee with
    | builtin b =>
      simp only
      rw [map_congr_arr (l := c.args.toList) (fun x hx => h x (by simp [Call.operands, hc] at hx ⊢; exact hx))]
    | value f => rfl
    | invoke r m => rfl
end Go.Proofs.YtehhgkgeldinkaaGreatDoor.Am
namespace Go.Proofs.YtehhgkgeldinkaaGreatDoor.Am
set_option linter.unusedVariables false
set_option linter.unusedSimpArgs false

def CallPost (G : Nat) (F : Nat → Prop) (W : World) (e : Em) (v : AV) (H' : Hp) (en : Ending) (w' : World) : Prop :=
  ∃ e' v', en = .returned v' ∧ e.le e' ∧ RH G F W e' H' w' ∧ VR e' v v'

/-- the calls of functions are sound -/
def CFS (P : Program) (cf : CF) : Prop :=
  ∀ (g : AV) (args : List AV) (H : Hp) (v : AV) (H' : Hp), cf g args H = some (v, H') →
    ∃ fid first cap, g = .func (.func fid) first cap ∧ ∀ (F : Nat → Prop) (W : World) (e : Em) (w : World) (as' : Array Value), RH P.globals.size F W e H w → VRL e (first ++ args ++ cap) as'.toList →
      (∃ v' w' e', (callFunc fid as').run P w = .ok (.value v') w' ∧ e.le e' ∧ RH P.globals.size F W e' H' w' ∧ VR e' v v') ∨
      ((callFunc fid as').run P w = .ok (.enter fid as') w ∧ Calls P fid as' w (CallPost P.globals.size F W e v H'))

section
variable {P : Program} {F : Nat → Prop} {W : World} {e : Em} {H : Hp} {w : World}

/-- temporaries -/
structure TR (e : Em) (n : Nat) (t : Tm) (a : Act) : Prop where
  size : n ≤ a.tmps.size
  val : ∀ x, VR e ((t.get x).getD undefA) (a.tmps.getD x undef)

theorem TR.mono {e e' : Em} (h : e.le e') {n : Nat} {t : Tm} {a : Act} (k : TR e n t a) : TR e' n t a := ⟨k.size, fun x => (k.val x).mono h⟩

theorem VR.ev (h : RH P.globals.size F W e H w) {n : Nat} {t : Tm} {a : Act} (ht : TR e n t a) (x : Operand) : VR e (ev P.globals.size t x) (a.eval x) := by
  cases x with
  | tmp d => exact ht.val d
  | const v =>
    simp only [Am.ev, Act.eval]
    cases hc : Am.ofC v with
    | none => exact .junk v
    | some c => exact .ofC hc
  | global g =>
    simp only [Am.ev, Act.eval]
    cases hb : Nat.blt g P.globals.size with
    | false => exact .junk _
    | true =>
      rw [Nat.blt_eq] at hb
      obtain ⟨h1, h2, h3⟩ := h.glob g hb
      have := VR.ptr (e := e) g 0 0 h1 (by rw [h3]; simp)
      rw [h2] at this
      exact this
  | func f => exact .func _ (by simp) [] [] #[] #[] rfl rfl (by simp) (by simp)

theorem getD_set {t : Array Value} {d x : Nat} {v : Value} (h : d < t.size) : (t.setIfInBounds d v).getD x undef = if x = d then v else t.getD x undef := by
  simp only [Array.getD_eq_getD_getElem?]
  by_cases hx : x = d
  · subst hx; rw [Array.getElem?_setIfInBounds_self_of_lt h, if_pos rfl]; rfl
  · rw [Array.getElem?_setIfInBounds_ne (fun q => hx q.symm), if_neg hx]

theorem TR.put {n : Nat} {t t' : Tm} {a : Act} (h : TR e n t a) {dst : Option Tmp} {v : AV} {v' : Value} (hp : putD n dst v t = some t') (hv : VR e v v') : TR e n t' (a.put dst v') := by
  unfold putD at hp
  split at hp
  · cases hp; exact h
  · rename_i d
    cases hb : (Nat.blt d n && Nat.blt d 4294967296) with
    | false => rw [hb] at hp; cases hp
    | true =>
      rw [hb] at hp
      cases hp
      simp only [Bool.and_eq_true, Nat.blt_eq] at hb
      have hlt : d < a.tmps.size := Nat.lt_of_lt_of_le hb.1 h.size
      refine ⟨by simp only [Act.put, Array.size_setIfInBounds]; exact h.size, fun x => ?_⟩
      simp only [Act.put]
      rw [getD_set hlt, Tr.get_put _ _ _ _ _ (by omega)]
      by_cases hx : x = d
      · rw [if_pos hx, if_pos hx]; exact hv
      · rw [if_neg hx, if_neg hx]; exact h.val x

theorem VR.bool_of {v : AV} {b : Bool} (h : VR e v (.bool b)) : v = .bool b ∨ v = .junk := by
  cases h with
  | junk => exact .inr rfl
  | bool => exact .inl rfl

theorem wanted_of {ops : Array Oper} {o : Oper} {t : Tm} {a : Act} {b : Bool} (hw : wantedA ops o t = some b) (hT : ∀ d, guardT ops o = some d → VR e ((t.get d).getD undefA) (a.tmps.getD d undef)) :
    Region.wanted o (yielded ops a.tmps) = b := by
  unfold wantedA at hw
  unfold Region.wanted
  split at hw
  · rename_i hg
    cases hw
    simp [hg]
  · rename_i j want hg
    simp only [hg]
    have hgt : guardT ops o = (ops[j]?).bind (·.dst) := by simp [guardT, hg]
    unfold yielded
    split at hw
    · rename_i hd
      cases hw
      simp [hd]
    · rename_i d hd
      have hv := hT d (by rw [hgt, hd])
      simp only [hd, Option.bind_some]
      rw [Array.getD_eq_getD_getElem?] at hv
      split at hw
      · rename_i hn
        cases hw
        rw [hn] at hv
        obtain ⟨vs, hvs, _⟩ := VR.tuple_inv (l := []) hv
        cases hq : a.tmps[d]? with
        | none => simp
        | some u => rw [hq] at hvs; simp at hvs; subst hvs; simp
      · rename_i c hc
        cases hw
        rw [hc] at hv
        have := hv.bool_inv
        cases hq : a.tmps[d]? with
        | none => rw [hq] at this; simp [undef] at this
        | some u => rw [hq] at this; simp at this; subst this; simp
      · cases hw
      · rename_i u hnb hnj hu
        cases hw
        rw [hu] at hv
        cases hq : a.tmps[d]? with
        | none => simp
        | some z =>
          rw [hq] at hv
          simp at hv
          cases z <;> simp
          rename_i b
          rcases hv.bool_of with r | r
          · exact (hnb _ r).elim
          · exact (hnj r).elim

theorem resolve_func {σ : Operand → Value} {f : Operand} {args : Array Operand} {argT : Array TypeId} {ty fid : Nat} {first cap : Array Value} (hf : σ f = .func (.func fid) first cap) :
    (do let d ← resolve σ { callee := .value f, args, argTypes := argT } ty; invoke d.target d.args : Sem Next) = callFunc fid (first ++ args.map σ ++ cap) := by
  unfold resolve
  simp only [hf, Deferred.ofValue]
  rfl

/-- an operation, whichever: what is asked of its operands alone -/
theorem opC_sound {cf : CF} (hcf : CFS P cf) (h : RH P.globals.size F W e H w) {t : Tm} {a : Act} {o : Oper} {v : AV} {H' : Hp} (ho : opC P cf t o H = some (v, H'))
    (hT : ∀ x ∈ o.op.operands.toList, VR e (ev P.globals.size t x) (a.eval x)) {next : Act → World → Prop} {Q : Exit → Act → World → Prop}
    (hn : ∀ e' v' w', e.le e' → RH P.globals.size F W e' H' w' → VR e' v v' → next (a.put o.dst v') w') : o.wp P a w next Q := by
  classical
  -- operands that are not its own count for nothing
  let ρ : Operand → AV := fun x => if x ∈ o.op.operands.toList then ev P.globals.size t x else .junk
  have hρ : ∀ x, VR e (ρ x) (a.eval x) := by
    intro x
    simp only [ρ]
    split
    · rename_i hx; exact hT x hx
    · exact .junk _
  have hρe : ∀ x ∈ o.op.operands.toList, ev P.globals.size t x = ρ x := by
    intro x hx; simp only [ρ, if_pos hx]
  have plain : opA P (ev P.globals.size t) o H = some (v, H') → o.wp P a w next Q := by
    intro hA
    rw [opA_congr o H hρe] at hA
    obtain ⟨n, w', e', v', hr, hv, he, hR, hvr⟩ := opA_sound h hρ hA
    unfold Oper.wp
    rw [hr]
    rcases hv with rfl | ⟨rfl, rfl⟩
    · exact hn e' v' w' he hR hvr
    · exact hn e' _ w' he hR hvr
  unfold opC at ho
  split at ho
  · rename_i f args argT hop
    obtain ⟨fid, first, cap, hg, hs⟩ := hcf _ _ _ _ _ ho
    have hfo : f ∈ o.op.operands.toList := by simp [hop, Op.operands, Call.operands]
    have hf := hT f hfo
    rw [hg] at hf
    cases hfe : a.eval f with
    | func fn first' cap' =>
      rw [hfe] at hf
      cases hf with
      | func _ _ _ _ _ _ ha hc h1 h2 =>
      have hargs : VRL e (args.toList.map (ev P.globals.size t)) (args.map a.eval).toList := by
        rw [Array.toList_map]
        refine ⟨by simp, fun i x x' hx hx' => ?_⟩
        simp only [List.getElem?_map, Option.map_eq_some_iff] at hx hx'
        obtain ⟨z, hz, rfl⟩ := hx
        obtain ⟨z', hz', rfl⟩ := hx'
        rw [hz] at hz'
        cases hz'
        exact hT z (by simp [hop, Op.operands, Call.operands]; exact .inr (by have := List.mem_of_getElem? hz; simpa using this))
      have hall : VRL e (first ++ args.toList.map (ev P.globals.size t) ++ cap) (first' ++ args.map a.eval ++ cap').toList := by
        have q1 : VRL e first first'.toList := ⟨ha, h1⟩
        have q2 : VRL e cap cap'.toList := ⟨hc, h2⟩
        have := (q1.append hargs).append q2
        simpa using this
      have hex : execOp a.eval o = callFunc fid (first' ++ args.map a.eval ++ cap') := by
        unfold execOp
        rw [hop]
        exact resolve_func hfe
      unfold Oper.wp
      rw [hex]
      rcases hs F W e w _ h hall with ⟨v', w', e', hr, he, hR, hvr⟩ | ⟨hr, hcalls⟩
      · rw [hr]; exact hn e' v' w' he hR hvr
      · rw [hr]
        refine hcalls.mono ?_
        rintro en w'' ⟨e', v', rfl, he, hR, hvr⟩
        exact hn e' v' w'' he hR hvr
    | _ => rw [hfe] at hf; cases hf
  · exact plain ho

theorem seqOps_sound {cf : CF} (hcf : CFS P cf) {ops : Array Oper} {n : Nat} {Q : Exit → Act → World → Prop} {t' : Tm} {H' : Hp} : ∀ (r : List Oper) (i : Nat) (t : Tm) (H : Hp) (e : Em) (a : Act) (w : World),
    ops.toList.drop i = r → seqOps P cf n ops r t H = some (t', H') → RH P.globals.size F W e H w → TR e n t a →
    (∀ e' a' w', e.le e' → RH P.globals.size F W e' H' w' → TR e' n t' a' → a'.defers = a.defers → Q .normal a' w') → wpOps P ops Q (List.range' i r.length) a w := by
  intro r
  induction r with
  | nil =>
    intro i t H e a w hd hs hR hT hQ
    cases hs
    exact hQ e a w e.le_refl hR hT rfl
  | cons o r ih =>
    intro i t H e a w hd hs hR hT hQ
    have hi : ops[i]? = some o := by
      have := congrArg (fun l => l[0]?) hd
      simpa [List.getElem?_drop, Array.getElem?_toList] using this
    have hd' : ops.toList.drop (i + 1) = r := by
      have := congrArg List.tail hd
      simpa [List.tail_drop] using this
    rw [List.length_cons, List.range'_succ]
    unfold seqOps at hs
    split at hs
    · rename_i hw
      split at hs
      · rename_i v H1 ho
        split at hs
        · rename_i t1 hp
          simp only [wpOps, hi, wanted_of (e := e) (a := a) hw (fun d _ => hT.val d), if_true]
          left
          refine opC_sound hcf hR ho (fun x _ => VR.ev hR hT x) ?_
          intro e' v' w' he hR' hv
          have hT' := (hT.mono he).put hp hv
          refine ih (i + 1) t1 H1 e' _ w' hd' hs hR' hT' ?_
          intro e2 a2 w2 he2 hR2 hT2 hdef
          refine hQ e2 a2 w2 (Em.le_trans he he2) hR2 hT2 (hdef.trans ?_)
          cases o.dst <;> rfl
        · cases hs
      · cases hs
    · rename_i hw
      split at hs
      · rename_i t1 hp
        simp only [wpOps, hi, wanted_of (e := e) (a := a) hw (fun d _ => hT.val d), Bool.false_eq_true, if_false]
        have hT' := hT.put hp VR.undef
        refine ih (i + 1) t1 H e _ w hd' hs hR hT' ?_
        intro e2 a2 w2 he2 hR2 hT2 hdef
        refine hQ e2 a2 w2 he2 hR2 hT2 (hdef.trans ?_)
        cases o.dst <;> rfl
      · cases hs
    · cases hs
end
end Go.Proofs.YtehhgkgeldinkaaGreatDoor.Am
namespace Go.Proofs.YtehhgkgeldinkaaGreatDoor.Am
set_option linter.unusedVariables false
set_option linter.unusedSimpArgs false

def maskOf (o : Oper) (acc : List Nat) : Nat := o.after.toList.foldl (fun s e => if Region.binds .any e then s ||| 2 ^ e.on ||| acc.getD e.on 0 else s) 0

theorem fold_bit (acc : List Nat) (j : Nat) : ∀ (l : List Edge) (s : Nat), (l.foldl (fun s e => if Region.binds .any e then s ||| 2 ^ e.on ||| acc.getD e.on 0 else s) s).testBit j = true →
    s.testBit j = true ∨ ∃ e ∈ l, Region.binds .any e = true ∧ (j = e.on ∨ (acc.getD e.on 0).testBit j = true)
  | [], s, h => .inl h
  | e :: l, s, h => by
    rw [List.foldl_cons] at h
    rcases fold_bit acc j l _ h with h1 | ⟨e', he', hb, hj⟩
    · by_cases hbnd : Region.binds .any e = true
      · rw [if_pos hbnd] at h1
        rw [Nat.testBit_or, Nat.testBit_or, Bool.or_eq_true, Bool.or_eq_true] at h1
        rcases h1 with (h1 | h1) | h1
        · exact .inl h1
        · right
          refine ⟨e, List.mem_cons_self .., hbnd, .inl ?_⟩
          rw [Nat.testBit_two_pow] at h1
          exact (of_decide_eq_true h1).symm
        · exact .inr ⟨e, List.mem_cons_self .., hbnd, .inr h1⟩
      · rw [if_neg hbnd] at h1
        exact .inl h1
    · exact .inr ⟨e', List.mem_cons_of_mem _ he', hb, hj⟩

theorem before_len : ∀ (r : List Oper) (acc : List Nat), (before r acc).length = acc.length + r.length
  | [], acc => by simp [before]
  | o :: r, acc => by
    rw [before, before_len r]
    simp; omega

theorem before_old : ∀ (r : List Oper) (acc : List Nat) (i : Nat), i < acc.length → (before r acc)[i]? = acc[i]?
  | [], acc, i, h => by simp [before]
  | o :: r, acc, i, h => by
    rw [before, before_old r _ i (by simp; omega)]
    rw [List.getElem?_append_left h]

theorem before_at : ∀ (r : List Oper) (acc : List Nat) (i : Nat) (o : Oper), r[i]? = some o → (before r acc)[acc.length + i]? = some (maskOf o ((before r acc).take (acc.length + i)))
  | [], acc, i, o, h => by simp at h
  | p :: r, acc, i, o, h => by
    cases i with
    | zero =>
      simp at h
      subst h
      rw [before, Nat.add_zero, before_old r _ _ (by simp)]
      have ht : (before r (acc ++ [maskOf p acc])).take acc.length = acc := by
        apply List.ext_getElem?
        intro k
        rw [List.getElem?_take]
        split
        · rw [before_old r _ k (by simp; omega), List.getElem?_append_left (by assumption)]
        · rw [List.getElem?_eq_none (by omega)]
      show (acc ++ [maskOf p acc])[acc.length]? = some (maskOf p ((before r (acc ++ [maskOf p acc])).take acc.length))
      rw [ht]
      simp
    | succ i =>
      have := before_at r (acc ++ [maskOf p acc]) i o (by simpa using h)
      rw [List.length_append, List.length_singleton] at this
      rw [before]
      have e1 : acc.length + (i + 1) = acc.length + 1 + i := by omega
      rw [e1]
      exact this

/-- what the region's own form gives -/
structure Form (ops : Array Oper) (B : List Nat) : Prop where
  len : B.length = ops.size
  back : ∀ i o, ops[i]? = some o → ∀ e ∈ o.after, Region.binds .any e = true → e.on < i
  bit : ∀ i o, ops[i]? = some o → ∀ j, (B.getD i 0).testBit j = true → ∃ e ∈ o.after, Region.binds .any e = true ∧ (j = e.on ∨ (B.getD e.on 0).testBit j = true)
  one : ∀ (i j : Nat) (oi oj : Oper) (d : Tmp), ops[i]? = some oi → ops[j]? = some oj → oi.dst = some d → oj.dst = some d → i = j
  rd : ∀ (i j : Nat) (oi oj : Oper) (d : Tmp), ops[i]? = some oi → ops[j]? = some oj → oi.dst = some d → i ≠ j → readsT ops oj d = true → if i < j then (B.getD j 0).testBit i = true else (B.getD i 0).testBit j = true

theorem form_of {ops : Array Oper} (h : regOk ops = true) : Form ops (before ops.toList []) := by
  unfold regOk at h
  simp only at h
  have hlen : (before ops.toList []).length = ops.size := by rw [before_len]; simp
  have hz : ∀ i o, ops[i]? = some o → (i, (o, (before ops.toList []).getD i 0)) ∈ (List.range ops.size).zip (ops.toList.zip (before ops.toList [])) := by
    intro i o ho
    have hi : i < ops.size := (Array.getElem?_eq_some_iff.1 ho).1
    apply List.mem_of_getElem? (i := i)
    rw [List.getElem?_zip_eq_some]
    refine ⟨by simp [hi], ?_⟩
    rw [List.getElem?_zip_eq_some]
    refine ⟨by simpa using ho, ?_⟩
    simp only
    rw [List.getD_eq_getElem?_getD, List.getElem?_eq_getElem (by rw [hlen]; exact hi)]
    rfl
  rw [List.all_eq_true] at h
  have h1 : ∀ i o, ops[i]? = some o → ∀ e ∈ o.after, Region.binds .any e = true → e.on < i := by
    intro i o ho e he hb
    have := h _ (hz i o ho)
    rw [Bool.and_eq_true] at this
    have h2 := Array.all_eq_true_iff_forall_mem.1 this.1 e he
    rw [hb] at h2
    simpa using h2
  have h2 : ∀ i j oi oj, ops[i]? = some oi → ops[j]? = some oj → pairOk ops i oi ((before ops.toList []).getD i 0) j oj ((before ops.toList []).getD j 0) = true := by
    intro i j oi oj hi hj
    have := h _ (hz i oi hi)
    rw [Bool.and_eq_true] at this
    exact List.all_eq_true.1 this.2 _ (hz j oj hj)
  refine ⟨hlen, h1, ?_, ?_, ?_⟩
  · intro i o ho j hb
    have hi : i < ops.size := (Array.getElem?_eq_some_iff.1 ho).1
    have hat := before_at ops.toList [] i o (by simpa using ho)
    simp only [List.length_nil, Nat.zero_add] at hat
    rw [List.getD_eq_getElem?_getD, hat] at hb
    simp only [Option.getD_some] at hb
    rcases fold_bit _ j _ 0 hb with hq | ⟨e, he, hbnd, hj⟩
    · simp at hq
    · have he' : e ∈ o.after := by simpa using he
      refine ⟨e, he', hbnd, hj.imp id fun hq => ?_⟩
      have hlt := h1 i o ho e he' hbnd
      rw [List.getD_eq_getElem?_getD, List.getElem?_take, if_pos hlt] at hq
      rw [List.getD_eq_getElem?_getD]
      exact hq
  · intro i j oi oj d hi hj hdi hdj
    have := h2 i j oi oj hi hj
    unfold pairOk at this
    rw [hdi] at this
    simp only [Bool.or_eq_true, Bool.and_eq_true] at this
    rcases this with q | ⟨q, _⟩
    · exact Nat.eq_of_beq_eq_true q
    · simp [hdj] at q
  · intro i j oi oj d hi hj hdi hne hr
    have := h2 i j oi oj hi hj
    unfold pairOk at this
    rw [hdi] at this
    simp only [Bool.or_eq_true, Bool.and_eq_true] at this
    rcases this with q | ⟨_, q⟩
    · exact absurd (Nat.eq_of_beq_eq_true q) hne
    · rcases q with q | q
      · rw [hr] at q; simp at q
      · by_cases hlt : i < j
        · rw [if_pos hlt]
          have : Nat.blt i j = true := by rw [Nat.blt_eq]; exact hlt
          rw [this] at q; exact q
        · rw [if_neg hlt]
          have : Nat.blt i j = false := by
            cases hb : Nat.blt i j
            · rfl
            · rw [Nat.blt_eq] at hb; exact absurd hb hlt
          rw [this] at q; exact q

/-- the run in the order of the text, step by step -/
structure Trace (P : Program) (cf : CF) (n : Nat) (ops : Array Oper) (l : List Stp) (B : List Nat) where
  TP : Nat → Tm
  TE : Nat → Tm
  HB : Nat → Hp
  HH : Nat → Hp
  V : Nat → AV
  X : Nat → Bool

def kk (P : Program) (x : Bool) (o : Oper) : Kd := if x then kd P o else .pure

def StepOK (P : Program) (cf : CF) (n : Nat) (ops : Array Oper) (o : Oper) (x : Bool) (v : AV) (tp te tp' te' : Tm) (hb hh hb' hh' : Hp) : Prop :=
  wantedA ops o tp = some x ∧
  match x, kd P o with
  | false, _ => v = undefA ∧ putD n o.dst undefA tp = some tp' ∧ putD n o.dst undefA te = some te' ∧ hb' = hb ∧ hh' = hh
  | true, .late => opA P (ev P.globals.size te) o hh = some (v, hh') ∧ putD n o.dst .junk tp = some tp' ∧ putD n o.dst v te = some te' ∧ hb' = hb
  | true, .eff => opC P cf te o hh = some (v, hh') ∧ putD n o.dst v tp = some tp' ∧ putD n o.dst v te = some te' ∧ hb' = hh'
  | true, _ => (∃ h', opA P (ev P.globals.size tp) o hb = some (v, h')) ∧ putD n o.dst v tp = some tp' ∧ putD n o.dst v te = some te' ∧ hb' = hb ∧ hh' = hh

theorem drawRun_trace {P : Program} {cf : CF} {n : Nat} {ops : Array Oper} {B : List Nat} {tF : Tm} {HF : Hp} : ∀ (r : List Oper) (bs : List Nat) (i : Nat) (tp te : Tm) (hb hh : Hp) (l : List Stp),
    ops.toList.drop i = r → B.drop i = bs → drawRun P cf n ops i r bs tp te hb hh = some (l, tF, HF) →
    ∃ (TP TE : Nat → Tm) (HB HH : Nat → Hp) (V : Nat → AV) (X : Nat → Bool), TP i = tp ∧ TE i = te ∧ HB i = hb ∧ HH i = hh ∧ TE (i + r.length) = tF ∧ HH (i + r.length) = HF ∧
      ∀ j o, i ≤ j → ops[j]? = some o → StepOK P cf n ops o (X j) (V j) (TP j) (TE j) (TP (j + 1)) (TE (j + 1)) (HB j) (HH j) (HB (j + 1)) (HH (j + 1)) ∧
        (⟨j, o, B.getD j 0, X j, kk P (X j) o, V j, TP j, HB j, HB (j + 1)⟩ : Stp) ∈ l := by
  intro r
  induction r with
  | nil =>
    intro bs i tp te hb hh l hd hbs hr
    simp only [drawRun, Option.some.injEq, Prod.mk.injEq] at hr
    obtain ⟨rfl, rfl, rfl⟩ := hr
    refine ⟨fun _ => tp, fun _ => te, fun _ => hb, fun _ => hh, fun _ => .junk, fun _ => false, rfl, rfl, rfl, rfl, rfl, rfl, ?_⟩
    intro j o hj ho
    have hlt := (Array.getElem?_eq_some_iff.1 ho).1
    have := congrArg List.length hd
    simp at this
    omega
  | cons o r ih =>
    intro bs i tp te hb hh l hd hbs hr
    have hi : ops[i]? = some o := by
      have := congrArg (fun l => l[0]?) hd
      simpa [List.getElem?_drop, Array.getElem?_toList] using this
    have hd' : ops.toList.drop (i + 1) = r := by
      have := congrArg List.tail hd
      simpa [List.tail_drop] using this
    cases bs with
    | nil => simp [drawRun] at hr
    | cons b bs =>
      have hbi : B.getD i 0 = b := by
        have := congrArg (fun l => l[0]?) hbs
        simp [List.getElem?_drop] at this
        simp [List.getD_eq_getElem?_getD, this]
      have hbs' : B.drop (i + 1) = bs := by
        have := congrArg List.tail hbs
        simpa [List.tail_drop] using this
      have fin : ∀ (x : Bool) (v : AV) (tp' te' : Tm) (hb' hh' : Hp) (l' : List Stp), StepOK P cf n ops o x v tp te tp' te' hb hh hb' hh' → drawRun P cf n ops (i + 1) r bs tp' te' hb' hh' = some (l', tF, HF) →
          l = ⟨i, o, b, x, kk P x o, v, tp, hb, hb'⟩ :: l' →
          ∃ (TP TE : Nat → Tm) (HB HH : Nat → Hp) (V : Nat → AV) (X : Nat → Bool), TP i = tp ∧ TE i = te ∧ HB i = hb ∧ HH i = hh ∧ TE (i + (o :: r).length) = tF ∧ HH (i + (o :: r).length) = HF ∧
      ∀ j o, i ≤ j → ops[j]? = some o → StepOK P cf n ops o (X j) (V j) (TP j) (TE j) (TP (j + 1)) (TE (j + 1)) (HB j) (HH j) (HB (j + 1)) (HH (j + 1)) ∧
        (⟨j, o, B.getD j 0, X j, kk P (X j) o, V j, TP j, HB j, HB (j + 1)⟩ : Stp) ∈ l := by
        intro x v tp' te' hb' hh' l' hstep hrec hl
        obtain ⟨TP, TE, HB, HH, V, X, q1, q2, q3, q4, q5, q6, q7⟩ := ih bs (i + 1) tp' te' hb' hh' l' hd' hbs' hrec
        have hne : ¬ i + 1 = i := by omega
        refine ⟨fun j => if j = i then tp else TP j, fun j => if j = i then te else TE j, fun j => if j = i then hb else HB j, fun j => if j = i then hh else HH j, fun j => if j = i then v else V j, fun j => if j = i then x else X j,
          by simp, by simp, by simp, by simp, ?_, ?_, ?_⟩
        · simp only [List.length_cons]
          rw [if_neg (by omega)]
          have : i + (r.length + 1) = i + 1 + r.length := by omega
          rw [this]; exact q5
        · simp only [List.length_cons]
          rw [if_neg (by omega)]
          have : i + (r.length + 1) = i + 1 + r.length := by omega
          rw [this]; exact q6
        · intro j oj hj hoj
          by_cases hji : j = i
          · subst hji
            rw [hi] at hoj
            cases hoj
            simp only [if_true, if_neg hne, q1, q2, q3, q4, hbi]
            refine ⟨hstep, ?_⟩
            rw [hl]; exact List.mem_cons_self ..
          · have hj1 : ¬ j + 1 = i := by omega
            simp only [if_neg hji, if_neg hj1]
            obtain ⟨s1, s2⟩ := q7 j oj (by omega) hoj
            exact ⟨s1, by rw [hl]; exact List.mem_cons_of_mem _ s2⟩
      unfold drawRun at hr
      split at hr
      · rename_i hw
        split at hr
        · rename_i hk
          split at hr
          · rename_i v h' hop
            split at hr
            · rename_i tp' te' h1 h2
              simp only [Option.map_eq_some_iff, Prod.exists, Prod.mk.injEq] at hr
              obtain ⟨l', a, b', hrec, rfl, rfl, rfl⟩ := hr
              refine fin true v tp' te' hb h' l' ⟨hw, ?_⟩ hrec (by simp [kk, hk])
              rw [hk]; exact ⟨hop, h1, h2, rfl⟩
            · cases hr
          · cases hr
        · rename_i hk
          split at hr
          · rename_i v h' hop
            split at hr
            · rename_i tp' te' h1 h2
              simp only [Option.map_eq_some_iff, Prod.exists, Prod.mk.injEq] at hr
              obtain ⟨l', a, b', hrec, rfl, rfl, rfl⟩ := hr
              refine fin true v tp' te' h' h' l' ⟨hw, ?_⟩ hrec (by simp [kk, hk])
              rw [hk]; exact ⟨hop, h1, h2, rfl⟩
            · cases hr
          · cases hr
        · rename_i hk1 hk2
          split at hr
          · rename_i v h' hop
            split at hr
            · rename_i tp' te' h1 h2
              simp only [Option.map_eq_some_iff, Prod.exists, Prod.mk.injEq] at hr
              obtain ⟨l', a, b', hrec, rfl, rfl, rfl⟩ := hr
              refine fin true v tp' te' hb hh l' ⟨hw, ?_⟩ hrec (by simp [kk])
              cases hkd : kd P o
              · exact ⟨⟨h', hop⟩, h1, h2, rfl, rfl⟩
              · exact ⟨⟨h', hop⟩, h1, h2, rfl, rfl⟩
              · exact absurd hkd hk1
              · exact absurd hkd hk2
            · cases hr
          · cases hr
      · rename_i hw
        split at hr
        · rename_i tp' te' h1 h2
          simp only [Option.map_eq_some_iff, Prod.exists, Prod.mk.injEq] at hr
          obtain ⟨l', a, b', hrec, rfl, rfl, rfl⟩ := hr
          refine fin false undefA tp' te' hb hh l' ⟨hw, rfl, h1, h2, rfl, rfl⟩ hrec (by simp [kk])
        · cases hr
      · cases hr
end Go.Proofs.YtehhgkgeldinkaaGreatDoor.Am
