/- The evaluator's operations are sound, second part (of no program). -/
import Derived.Test.YtclnlapcgcbomaaGreatDoorAm2
namespace Go.Proofs.YtclnlapcgcbomaaGreatDoor.Am
set_option linter.unusedVariables false
set_option linter.unusedSimpArgs false
section
variable {P : Program} {G : Nat} {F : Nat → Prop} {W : World} {e : Em} {H : Hp} {w : World}

theorem growBy_le (n : Nat) : ∀ (r c : Nat), c ≤ 2 * n + 192 → Builtin.growBy n r c ≤ 2 * n + 192
  | 0, c, h => h
  | r + 1, c, h => by
    unfold Builtin.growBy
    split
    · exact h
    · exact growBy_le n r _ (by omega)
theorem nextslicecap_le {need cap : Nat} (h : cap < need) : Builtin.nextslicecap need cap ≤ 2 * need + 192 := by
  unfold Builtin.nextslicecap
  split
  · omega
  · split
    · omega
    · exact growBy_le need 4 cap (by omega)

/-- stores into a row of which only the shape is known -/
theorem run_stores (b o el : Nat) (fz : Nat × Nat) : ∀ (vs : List Value) (k : Nat) (w : World) (C : Array Value), w.heap[b]? = some (.cells C el fz) → o + k + vs.length ≤ C.size →
    (∀ m, m < C.size → (decide (fz.1 ≤ m) && decide (m < fz.2)) = false) → (∀ v ∈ vs, v.oneCell' = true) →
    ∃ w' C', (storeCells ⟨b, o, none⟩ vs k).run P w = .ok () w' ∧ w'.heap[b]? = some (.cells C' el fz) ∧ C'.size = C.size ∧
      (∀ m, C'[m]? = if o + k ≤ m ∧ m < o + k + vs.length then vs[m - (o + k)]? else C[m]?) ∧ (∀ j, j ≠ b → w'.heap[j]? = w.heap[j]?) ∧ w'.heap.size = w.heap.size ∧ w'.os = w.os ∧ w'.tape = w.tape ∧ w'.output = w.output := by
  intro vs
  induction vs with
  | nil =>
    intro k w C hb hs hf h1
    exact ⟨w, C, by simp [storeCells], hb, rfl, fun m => by rw [if_neg (by rw [List.length_nil]; omega)], fun _ _ => rfl, rfl, rfl, rfl, rfl⟩
  | cons v vs ih =>
    intro k w C hb hs hf h1
    simp only [List.length_cons] at hs
    have hlt : o + k < C.size := by omega
    have hc : w.cell? ⟨b, o + k, none⟩ = some C[o + k] := by simp [World.cell?, hb, hlt]
    have hfr : w.frozen? ⟨b, o + k, none⟩ = false := by simp only [World.frozen?, hb]; exact hf _ hlt
    have hb1 : (w.setCell ⟨b, o + k, none⟩ v).heap[b]? = some (.cells (C.setIfInBounds (o + k) v) el fz) := by
      simp only [World.setCell]; rw [get_modify_same _ _ _ hb]; rfl
    obtain ⟨w', C', r1, r2, r3, r4, r5, r6, r7, r8, r9⟩ := ih (k + 1) _ _ hb1 (by simp; omega) (by simpa using hf) (fun u hu => h1 u (List.mem_cons_of_mem _ hu))
    refine ⟨w', C', ?_, r2, by simpa using r3, fun m => ?_, fun j hj => ?_, ?_, r7, r8, r9⟩
    · simp only [storeCells, Sem.run_bind, add_lit, run_store P w _ _ _ (h1 v (List.mem_cons_self ..)), hc, hfr, Bool.false_eq_true, if_false, Result.andThen_ok]
      exact r1
    · rw [r4 m]
      simp only [List.length_cons]
      by_cases hm : m = o + k
      · subst hm
        rw [if_neg (by omega), if_pos (by omega), Array.getElem?_setIfInBounds_self_of_lt (by omega)]
        simp
      · by_cases hr : o + (k + 1) ≤ m ∧ m < o + (k + 1) + vs.length
        · rw [if_pos hr, if_pos (by omega)]
          have : m - (o + k) = (m - (o + (k + 1))) + 1 := by omega
          rw [this, List.getElem?_cons_succ]
        · rw [if_neg hr, if_neg (by omega), Array.getElem?_setIfInBounds_ne (by omega)]
    · rw [r5 j hj]
      simp only [World.setCell]
      rw [get_modify_ne _ _ _ _ (fun q => hj q.symm)]
    · rw [r6]; simp [World.setCell]

theorem RH.del (h : RH G F W e H w) (i : Nat) : RH G F W e { H with h := H.h.del i } w := by
  have hget : ∀ j o, (H.h.del i).get j = some o → H.h.get j = some o ∧ j ≠ i := by
    intro j o hj
    rw [Tr.get_del] at hj
    split at hj
    · cases hj
    · exact ⟨hj, by assumption⟩
  exact ⟨h.N, fun j o hj => h.obj j o (hget j o hj).1, fun j k oj ok hj hk => h.inj j k oj ok (hget j oj hj).1 (hget k ok hk).1, h.glob, h.frame, h.os, h.tape, h.output, h.size, h.gsz⟩

/-- an object takes another one's block -/
theorem RH.move (h : RH G F W e H w) {i : Nat} {o o' : AO} (hg : H.h.get i = some o) (hw : wr o = true) {j : Nat} {H' : Hp} (ha : Am.alloc { H with h := H.h.del i } o' = some (j, H'))
    {ob' : Obj} {w' : World} (hsz : w'.heap.size = w.heap.size) (hb : w'.heap[e.b i]? = some ob') (hne : ∀ k, k ≠ e.b i → w'.heap[k]? = w.heap[k]?)
    (hor : OR (e.ext (e.b i) (e.d i) (e.n i)) j o' ob') (os : w'.os = w.os) (tape : w'.tape = w.tape) (output : w'.output = w.output) :
    j = e.N ∧ RH G F W (e.ext (e.b i) (e.d i) (e.n i)) H' w' := by
  obtain ⟨rfl, hlt0, rfl⟩ := alloc_some ha
  have hlt : H.next < 4294967296 := hlt0
  obtain ⟨hN, ob, hob, _, hF⟩ := h.obj i o hg
  have hNN := h.N
  have hle := Em.le_ext e (e.b i) (e.d i) (e.n i)
  have hget : ∀ k x, ((H.h.del i).put 34 H.next o').get k = some x → (k = H.next ∧ x = o') ∨ (k ≠ H.next ∧ k ≠ i ∧ H.h.get k = some x) := by
    intro k x hk
    rw [Tr.get_put _ _ _ _ _ (by omega)] at hk
    split at hk
    · cases hk; exact .inl ⟨by assumption, rfl⟩
    · rw [Tr.get_del] at hk
      split at hk
      · cases hk
      · exact .inr ⟨by assumption, by assumption, hk⟩
  have old : ∀ k x, H.h.get k = some x → (e.ext (e.b i) (e.d i) (e.n i)).b k = e.b k := fun k x hk => (hle.2 k (h.obj k x hk).1).1
  refine ⟨hNN.symm, ?_, ?_, ?_, ?_, ?_, os.trans h.os, tape.trans h.tape, output.trans h.output, by rw [hsz]; exact h.size, by rw [hsz]; exact h.gsz⟩
  · simp [Em.ext, hNN]
  · intro k x hk
    rcases hget k x hk with ⟨rfl, rfl⟩ | ⟨k1, k2, k3⟩
    · refine ⟨by simp [Em.ext, hNN], ob', ?_, hor, ?_⟩
      · rw [← hNN, Em.ext_b]; exact hb
      · intro _; rw [← hNN, Em.ext_b]; exact hF (.inl hw)
    · obtain ⟨a, ob2, b2, c2, d2⟩ := h.obj k x k3
      refine ⟨by simp [Em.ext]; omega, ob2, ?_, c2.mono hle a, ?_⟩
      · rw [old k x k3, hne _ (fun q => k2 (h.inj k i x o k3 hg q))]; exact b2
      · intro hw2; rw [old k x k3]; exact d2 hw2
  · intro k m x y hk hm he
    rcases hget k x hk with ⟨rfl, rfl⟩ | ⟨k1, k2, k3⟩ <;> rcases hget m y hm with ⟨rfl, rfl⟩ | ⟨m1, m2, m3⟩
    · rfl
    · rw [← hNN, Em.ext_b, old m y m3] at he
      exact absurd (h.inj m i y o m3 hg he.symm) m2
    · rw [← hNN, Em.ext_b, old k x k3] at he
      exact absurd (h.inj k i x o k3 hg he) k2
    · rw [old k x k3, old m y m3] at he
      exact h.inj k m x y k3 m3 he
  · intro g hg2
    obtain ⟨a, b, c⟩ := h.glob g hg2
    obtain ⟨x, y, _⟩ := hle.2 g a
    exact ⟨by simp [Em.ext]; omega, x.trans b, y.trans c⟩
  · intro k hk
    obtain ⟨a, b⟩ := h.frame k hk
    refine ⟨by rw [hsz]; exact a, ?_⟩
    rw [hne k (fun q => hF (.inl hw) (q ▸ hk))]
    exact b

theorem zerosC {z : Array Value} {es : Nat} (hz : z.size = es) (n : Nat) : (Builtin.zeroCells z n).toList = (List.replicate n z.toList).flatten := by
  unfold Builtin.zeroCells
  exact rows_of z n

/-- what is appended -/
theorem sound_new (h : RH G F W e H w) {zeros : Bool} {el es n : Nat} {x : AV} {x' : Value} {new : List AV} (hx : VR e x x') (hs : sz P el = some es) (hn : appNew P zeros el es x H = some (n, new)) :
    ∃ nv : List Value, VRL e new nv ∧ nv.length = n * es ∧
      (zeros = true → ∃ k : Int, x' = .int .i64 k ∧ 0 ≤ k ∧ k < 16777216 ∧ k.toNat = n ∧ ∃ i z0, P.info? el = some i ∧ i.zero = some z0 ∧ z0.cells.size = es ∧ nv = (List.replicate n z0.cells.toList).flatten) ∧
      (zeros = false → ∀ w1 : World, w1.heap = w.heap → (Builtin.lenOf x').run P w1 = .ok n w1 ∧ (Builtin.firstCells es n x').run P w1 = .ok nv.toArray w1) := by
  unfold appNew at hn
  split at hn
  · rename_i k
    cases hx.int_inv
    split at hn
    · rename_i hk
      split at hn
      · rename_i z hz
        split at hn
        · rename_i hzl
          cases hn
          obtain ⟨i, z0, hi, hz0, hl⟩ := zc_some (e := e) hz
          have hsz : z0.cells.size = es := by have := hl.1; simp at this; omega
          refine ⟨_, hl.rep _, ?_, fun _ => ⟨k, rfl, hk.1, hk.2, rfl, i, z0, hi, hz0, hsz, rfl⟩, by simp⟩
          simp [hsz]
        · cases hn
      · cases hn
    · cases hn
  · cases hn; cases hx
    exact ⟨[], .nil e, by simp, by simp, fun _ w1 hw1 => ⟨by simp [Builtin.lenOf], by simp [Builtin.firstCells]⟩⟩
  · rename_i i off len a1 a2 a3
    simp only [Option.map_eq_some_iff, Prod.mk.injEq] at hn
    obtain ⟨l, hl, rfl, rfl⟩ := hn
    rcases hx.slice_inv with ⟨o, k, hi2, ho, hll, hc2, hxx, hn2, rfl⟩ | ⟨rfl, _, a, rfl⟩
    · obtain ⟨cs, h1, h2, h3⟩ := h.loads hl ho
      refine ⟨cs, h1, h2, by simp, fun _ w1 hw1 => ⟨by simp [Builtin.lenOf], ?_⟩⟩
      have := run_loadCells_list (P := P) w1 ⟨e.b i, o, none⟩ cs (fun j v hj => by rw [add_lit]; have q := h3 j v hj; unfold World.cell? at q ⊢; rw [hw1]; exact q)
      rw [h2] at this
      simp [Builtin.firstCells, this]
    · rw [Nat.zero_mul] at hl
      cases hl
      refine ⟨[], .nil e, by simp, by simp, fun _ w1 hw1 => ⟨by simp [Builtin.lenOf], ?_⟩⟩
      simp [Builtin.firstCells, loadCells, loadCellsFrom]
  · rename_i s
    obtain ⟨b, rfl, rfl⟩ := hx.str_inv
    split at hn
    · rename_i he1
      subst he1
      simp only [Option.some.injEq, Prod.mk.injEq] at hn
      obtain ⟨rfl, rfl⟩ := hn
      refine ⟨b.data.toList.map fun u => Value.int .u8 u.toNat, ?_, ?_, by simp, fun _ w1 hw1 => ⟨by simp [Builtin.lenOf, bytes_len], ?_⟩⟩
      · refine ⟨by simp [bytes], fun i v v' hv hv' => ?_⟩
        simp only [bytes, List.map_map, List.getElem?_map, Option.map_eq_some_iff] at hv hv'
        obtain ⟨u, hu, rfl⟩ := hv
        obtain ⟨u', hu', rfl⟩ := hv'
        rw [hu] at hu'; cases hu'
        exact .int _ _
      · simp [bytes]
      · simp only [Builtin.firstCells, bytes_len]
        have : b.extract 0 b.size = b := ByteArray.extract_zero_size
        rw [this]
        simp only [Sem.run_pure]
        congr 1
        apply Array.toList_inj.1
        simp
    · cases hn
  · cases hn

theorem zerosQ {argT : Array TypeId} {zeros : Bool} (h : appZeros P argT = some zeros) :
    (argT[1]? = none ∧ zeros = false) ∨ ∃ t d, argT[1]? = some t ∧ P.underlying t = some d ∧ Builtin.append_.match_1 (fun _ => Bool) d (fun _ => true) (fun _ => false) = zeros := by
  unfold appZeros at h
  split at h
  · rename_i t ht
    simp only [Option.map_eq_some_iff] at h
    obtain ⟨d, hd, rfl⟩ := h
    refine .inr ⟨t, d, ht, hd, ?_⟩
    cases d <;> rfl
  · rename_i ht
    cases h
    exact .inl ⟨ht, rfl⟩

/-- the run of an append whose appended cells are known -/
theorem run_append_of {argT : Array TypeId} {ty : TypeId} {zeros : Bool} {t0 el es n : Nat} {s' x' : Value} {base : Option Addr} {sLen sCap : Nat} {nv : List Value} {i : TypeInfo} {z0 : Value}
    (h0 : argT[0]? = some t0) (hu : P.underlying t0 = some (.slice el)) (hz : appZeros P argT = some zeros) (hs : sz P el = some es) (hby : P.bytesOf el ≤ 4096)
    (hi : P.info? el = some i) (hz0 : i.zero = some z0) (hzs : z0.cells.size = es)
    (hse : s' = .slice base sLen sCap) (hne : sLen + n ≤ 16777216) (hnv : nv.length = n * es)
    (hzt : zeros = true → ∃ k : Int, x' = .int .i64 k ∧ 0 ≤ k ∧ k < 16777216 ∧ k.toNat = n ∧ ∃ i z0, P.info? el = some i ∧ i.zero = some z0 ∧ z0.cells.size = es ∧ nv = (List.replicate n z0.cells.toList).flatten)
    (hzf : zeros = false → ∀ w1 : World, w1.heap = w.heap → (Builtin.lenOf x').run P w1 = .ok n w1 ∧ (Builtin.firstCells es n x').run P w1 = .ok nv.toArray w1) :
    (sLen + n ≤ sCap → ∀ w', (∀ a, base = some a → (storeCells (a.add (sLen * es)) nv).run P w = .ok () w') → (base = none → w' = w) →
      (Builtin.append_ argT ty #[s', x']).run P w = .ok (.slice base (sLen + n) sCap) w') ∧
    (sCap < sLen + n → ∀ ov : List Value, (∀ w1 : World, w1.heap = w.heap → (Builtin.firstCells es sLen s').run P w1 = .ok ov.toArray w1) →
      ∃ c, sLen + n ≤ c ∧ (Builtin.append_ argT ty #[s', x']).run P w =
        .ok (.slice (some ⟨w.heap.size, 0, none⟩) (sLen + n) c) { w with drawn := w.drawn + 1, heap := w.heap.push (.cells (ov ++ nv ++ (List.replicate (c - (sLen + n)) z0.cells.toList).flatten).toArray el (0, 0)) }) := by
  have hsz := fun w => run_sz (P := P) hs w
  have hbyt : i.bytes ≤ 4096 := by unfold Program.bytesOf at hby; rw [hi] at hby; simpa using hby
  subst hse
  have hmax : ¬ (((sLen + n : Nat) : Int) > IntKind.i64.max) := by rw [IntKind.max_i64]; omega
  have hz0s : ∀ c, (Builtin.zeroCells z0.cells c) = (List.replicate c z0.cells.toList).flatten.toArray := fun c => Array.toList_inj.1 (by rw [zerosC hzs])
  have hcapb : sCap < sLen + n → ¬ (Builtin.nextslicecap (sLen + n) sCap * i.bytes > 2 ^ 48) := by
    intro hlt
    have h1 := nextslicecap_le hlt
    have : Builtin.nextslicecap (sLen + n) sCap * i.bytes ≤ (2 * 16777216 + 192) * 4096 := Nat.mul_le_mul (by omega) hbyt
    omega
  have hforced : (Question.appendCap (sLen + n) sCap el).forced = false := rfl
  have hcut : sLen + n ≤ (Question.appendCap (sLen + n) sCap el).cut (w.tape w.drawn (.appendCap (sLen + n) sCap el)) := Nat.le_add_right _ _
  cases zeros with
  | false =>
    have hf := hzf rfl
    constructor
    · intro hle w' hst hnone
      obtain ⟨f1, f2⟩ := hf w rfl
      have fin : (do
          let new ← Builtin.firstCells es n x'
          match base with
          | some a => do storeCells (a.add (sLen * es)) new.toList; Pure.pure (Value.slice base (sLen + n) sCap)
          | x => Pure.pure (Value.slice base (sLen + n) sCap) : Sem Value).run P w = .ok (.slice base (sLen + n) sCap) w' := by
        cases base with
        | none => simp [f2, hnone rfl]
        | some a => simp [f2, hst a rfl]
      rcases zerosQ (P := P) hz with ⟨h1, _⟩ | ⟨t, d, h1, hd, hm⟩
      · simp [Builtin.append_, h0, h1, run_und hu, hsz, f1, hle] at fin ⊢
        exact fin
      · simp only [Builtin.append_, h0, h1, List.getElem?_toArray, List.getElem?_cons_zero, List.getElem?_cons_succ, Sem.run_bind, run_und hu, run_und hd, Result.andThen_ok, hsz, Sem.run_pure]
        rw [hm]
        simp [f1, hle] at fin ⊢
        exact fin
    · intro hlt ov hov
      refine ⟨_, hcut, ?_⟩
      have hb := hcapb hlt
      have hnle : ¬ (sLen + n ≤ sCap) := by omega
      obtain ⟨f1, _⟩ := hf w rfl
      obtain ⟨_, f2⟩ := hf { w with drawn := w.drawn + 1 } rfl
      have o1 := hov { w with drawn := w.drawn + 1 } rfl
      rcases zerosQ (P := P) hz with ⟨h1, _⟩ | ⟨t, d, h1, hd, hm⟩
      · simp only [Builtin.append_, h0, h1, List.getElem?_toArray, List.getElem?_cons_zero, List.getElem?_cons_succ, Sem.run_bind, run_und hu, Result.andThen_ok, hsz, Sem.run_pure, Bool.false_eq_true, if_false, f1, if_neg hnle, run_inf hi]
        rw [if_neg (fun q => hmax q.1), Sem.run_bind, run_inf hi, Result.andThen_ok, if_neg hb]
        simp only [Sem.run_bind, run_choose, hforced, Bool.false_eq_true, if_false, Bool.not_false, if_true, Result.andThen_ok, run_inf hi, run_askRoom, o1, f2, run_zero hi hz0, hz0s, newRow, run_newObj, Sem.run_pure]
        simp
      · simp only [Builtin.append_, h0, h1, List.getElem?_toArray, List.getElem?_cons_zero, List.getElem?_cons_succ, Sem.run_bind, run_und hu, run_und hd, Result.andThen_ok, hsz, Sem.run_pure]
        rw [hm]
        simp only [Bool.false_eq_true, if_false, Sem.run_bind, f1, Result.andThen_ok, if_neg hnle, run_inf hi]
        rw [if_neg (fun q => hmax q.1), Sem.run_bind, run_inf hi, Result.andThen_ok, if_neg hb]
        simp only [Sem.run_bind, run_choose, hforced, Bool.false_eq_true, if_false, Bool.not_false, if_true, Result.andThen_ok, run_inf hi, run_askRoom, o1, f2, run_zero hi hz0, hz0s, newRow, run_newObj, Sem.run_pure]
        simp
  | true =>
    obtain ⟨k, rfl, k1, k2, k3, i2, z2, hi2, hz2, hzs2, hnv2⟩ := hzt rfl
    rw [hi] at hi2; cases hi2
    rw [hz0] at hz2; cases hz2
    have hw : IntKind.i64.wrap k = k := IntWalk.i64_in _ (by omega)
    have hb0 : ¬ k * (i.bytes : Int) > 2 ^ 48 := by
      have : k * (i.bytes : Int) ≤ 16777216 * 4096 := Int.mul_le_mul (by omega) (by omega) (by omega) (by omega)
      omega
    have hk0 : ¬ k < 0 := by omega
    rcases zerosQ (P := P) hz with ⟨h1, hf⟩ | ⟨t, d, h1, hd, hm⟩
    · cases hf
    have happ : ∀ w1 : World, ((if n * es = 0 then Pure.pure #[] else do Pure.pure (Builtin.zeroCells (← zeroValue el).cells n)) : Sem (Array Value)).run P w1 = .ok nv.toArray w1 := by
      intro w1
      by_cases hn0 : n * es = 0
      · rw [if_pos hn0]
        have : nv = [] := List.eq_nil_of_length_eq_zero (by omega)
        subst this; rfl
      · rw [if_neg hn0]
        simp only [Sem.run_bind, run_zero hi hz0, Result.andThen_ok, Sem.run_pure, hz0s, hnv2]
    constructor
    · intro hle w' hst hnone
      have fin : (do
          let new ← (if n * es = 0 then Pure.pure #[] else do Pure.pure (Builtin.zeroCells (← zeroValue el).cells n))
          match base with
          | some a => do storeCells (a.add (sLen * es)) new.toList; Pure.pure (Value.slice base (sLen + n) sCap)
          | x => Pure.pure (Value.slice base (sLen + n) sCap) : Sem Value).run P w = .ok (.slice base (sLen + n) sCap) w' := by
        rw [Sem.run_bind, happ w]
        cases base with
        | none => simp [hnone rfl]
        | some a => simp [hst a rfl]
      simp only [Builtin.append_, h0, h1, List.getElem?_toArray, List.getElem?_cons_zero, List.getElem?_cons_succ, Sem.run_bind, run_und hu, run_und hd, Result.andThen_ok, hsz, Sem.run_pure]
      rw [hm]
      simp only [if_true, Sem.run_bind, asInt, asIntOf, Sem.run_pure, Result.andThen_ok, hw, if_neg hk0, run_inf hi, if_neg hb0, k3, if_pos hle, Bool.not_true, Bool.false_eq_true, if_false] at fin ⊢
      exact fin
    · intro hlt ov hov
      refine ⟨_, hcut, ?_⟩
      have hb := hcapb hlt
      have hnle : ¬ (sLen + n ≤ sCap) := by omega
      have o1 := hov { w with drawn := w.drawn + 1 } rfl
      have f2 := happ { w with drawn := w.drawn + 1 }
      simp only [Builtin.append_, h0, h1, List.getElem?_toArray, List.getElem?_cons_zero, List.getElem?_cons_succ, Sem.run_bind, run_und hu, run_und hd, Result.andThen_ok, hsz, Sem.run_pure]
      rw [hm]
      simp only [if_true, Sem.run_bind, asInt, asIntOf, Sem.run_pure, Result.andThen_ok, hw, if_neg hk0, run_inf hi, if_neg hb0, k3, if_neg hnle, Bool.not_true, Bool.false_eq_true, if_false]
      rw [if_neg (fun q => hmax q.1), Sem.run_bind, run_inf hi, Result.andThen_ok, if_neg hb]
      simp only [Sem.run_bind, run_choose, hforced, Bool.false_eq_true, if_false, Result.andThen_ok, run_inf hi, run_askRoom, o1, f2, run_zero hi hz0, hz0s, newRow, run_newObj, Sem.run_pure]
      simp

theorem VR.slice_at {e : Em} {b i off len cap o c es : Nat} {ex : Bool} (hb : e.b i = b) (hi : i < e.N) (ho : (o : Int) = off + e.d i) (hl : len ≤ c) (hc : cap ≤ c) (hx : ex = true → c = cap) (hn : o + c * es ≤ e.n i) :
    VR e (.slice i off len cap ex es) (.slice (some ⟨b, o, none⟩) len c) := by
  subst hb; exact .slice i off len cap ex es o c hi ho hl hc hx hn

theorem VRL.one {new : List AV} {nv : List Value} (h : VRL e new nv) (ho : new.all oneC = true) : ∀ v ∈ nv, v.oneCell' = true := by
  intro v hv
  obtain ⟨i, hi⟩ := List.getElem?_of_mem hv
  have hlt : i < new.length := by rw [← h.1]; exact (List.getElem?_eq_some_iff.1 hi).1
  have h1 := h.2 i new[i] v (List.getElem?_eq_getElem hlt) hi
  exact h1.oneCell (List.all_eq_true.1 ho _ (List.getElem_mem hlt))

theorem run_first {b o sLen sCap es : Nat} {cs : List Value} (w : World) (hl : cs.length = sLen * es) (h : ∀ j v, cs[j]? = some v → w.cell? ⟨b, o + j, none⟩ = some v) :
    ∀ w1 : World, w1.heap = w.heap → (Builtin.firstCells es sLen (.slice (some ⟨b, o, none⟩) sLen sCap)).run P w1 = .ok cs.toArray w1 := by
  intro w1 hw1
  have := run_loadCells_list (P := P) w1 ⟨b, o, none⟩ cs (fun j v hj => by rw [add_lit]; have q := h j v hj; unfold World.cell? at q ⊢; rw [hw1]; exact q)
  rw [hl] at this
  simp [Builtin.firstCells, this]

set_option maxHeartbeats 1000000 in
theorem sound_append (h : RH G F W e H w) {argT : Array TypeId} {ty : TypeId} {s x v : AV} {s' x' : Value} {H' : Hp} (hs : VR e s s') (hx : VR e x x') (ha : appendA P argT s x H = some (v, H')) :
    ∃ v' w' e', (Builtin.append_ argT ty #[s', x']).run P w = .ok v' w' ∧ e.le e' ∧ RH G F W e' H' w' ∧ VR e' v v' := by
  unfold appendA at ha
  split at ha
  rotate_left
  · cases ha
  rename_i el zeros hq hz
  obtain ⟨t0, h0, hu⟩ := Option.bind_eq_some_iff.1 hq
  split at ha
  rotate_left
  · cases ha
  rename_i es z hes hzc
  cases hb : (Nat.ble (P.bytesOf el) 4096 && Nat.beq z.length es) with
  | false => rw [hb] at ha; cases ha
  | true =>
  rw [hb] at ha
  simp only [cond_true] at ha
  rw [Bool.and_eq_true, Nat.ble_eq] at hb
  obtain ⟨hby, hzl⟩ := hb
  have hzl' : z.length = es := Nat.eq_of_beq_eq_true hzl
  obtain ⟨inf, z0, hinf, hz0, hzr⟩ := zc_some (e := e) hzc
  have hzs : z0.cells.size = es := by have := hzr.1; simp at this; omega
  split at ha
  rotate_left
  · cases ha
  rename_i n new hnew
  obtain ⟨nv, hnl, hnv, hzt, hzf⟩ := sound_new (P := P) h hx hes hnew
  split at ha
  · -- nil
    cases hs
    cases hn0 : Nat.beq n 0 with
    | true =>
      rw [hn0] at ha
      cases ha
      have : n = 0 := Nat.eq_of_beq_eq_true hn0
      subst this
      obtain ⟨r1, _⟩ := run_append_of (P := P) (w := w) (ty := ty) (s' := .slice none 0 0) h0 hu hz hes hby hinf hz0 hzs rfl (by omega) hnv hzt hzf
      exact ⟨_, w, e, r1 (Nat.le_refl _) w (by simp) (fun _ => rfl), e.le_refl, h, .slice0⟩
    | false =>
      rw [hn0] at ha
      simp only [cond_false] at ha
      cases hn1 : Nat.ble n 16777216 with
      | false => rw [hn1] at ha; cases ha
      | true =>
      rw [hn1] at ha
      simp only [cond_true] at ha
      rw [Nat.ble_eq] at hn1
      split at ha
      · rename_i i H2 hnc
        cases ha
        have hnp : 0 < n := by
          rcases Nat.eq_zero_or_pos n with q | q
          · subst q; cases hn0
          · exact q
        obtain ⟨_, r2⟩ := run_append_of (P := P) (w := w) (ty := ty) (s' := .slice none 0 0) h0 hu hz hes hby hinf hz0 hzs rfl (by omega) hnv hzt hzf
        obtain ⟨c, hc, hr⟩ := r2 (by omega) [] (fun w1 _ => by simp [Builtin.firstCells])
        rw [Nat.zero_add] at hc hr
        obtain ⟨e', he, g1, g2, g3, g4, hrh⟩ := (h.drawn (w.drawn + 1)).newRow (rest := (List.replicate (c - n) z0.cells.toList).flatten) (fz := (0, 0)) hnc hnl (fun _ => rfl) (by simp)
        refine ⟨_, _, e', hr, he, hrh, ?_⟩
        have hb2 : w.heap.size = e'.b i := g2.symm
        rw [hb2]
        refine .slice i 0 n n false es 0 c g1 (by rw [g3]; simp) hc hc (by simp) ?_
        rw [g4]
        have : ((List.replicate (c - n) z0.cells.toList).flatten).length = (c - n) * es := by simp [hzs]
        rw [List.length_append, hnv, this, ← Nat.add_mul]
        have : n + (c - n) = c := by omega
        rw [this]; omega
      · cases ha
  · rename_i i off len cap ex es'
    cases hb2 : (Nat.ble (len + n) 16777216 && Nat.beq es es' && new.all oneC) with
    | false => rw [hb2] at ha; cases ha
    | true =>
    rw [hb2] at ha
    simp only [cond_true] at ha
    simp only [Bool.and_eq_true, Nat.ble_eq] at hb2
    obtain ⟨⟨hle, hee⟩, hone⟩ := hb2
    have hee' : es = es' := Nat.eq_of_beq_eq_true hee
    subst hee'
    cases hcap : Nat.ble (len + n) cap with
    | true =>
      rw [hcap] at ha
      simp only [cond_true] at ha
      rw [Nat.ble_eq] at hcap
      split at ha
      · rename_i H2 hst
        cases ha
        rcases hs.slice_inv with ⟨o, c, hi, ho, hl, hc, hxx, hn, rfl⟩ | ⟨rfl, rfl, a, rfl⟩
        · obtain ⟨r1, _⟩ := run_append_of (P := P) (w := w) (ty := ty) (s' := .slice (some ⟨e.b i, o, none⟩) len c) h0 hu hz hes hby hinf hz0 hzs rfl (by omega) hnv hzt hzf
          obtain ⟨w', hw', hr⟩ := RH.stores (P := P) (off := off + len * es) (k := 0) (o := o + len * es) h hst hnl (by push_cast; omega)
          refine ⟨_, w', e, r1 (by omega) w' (fun a ha => ?_) (by simp), e.le_refl, hr, .slice _ _ _ _ _ _ _ _ hi ho (by omega) hc hxx hn⟩
          cases ha
          rw [add_lit]; exact hw'
        · have hn0 : n = 0 := by omega
          subst hn0
          have : new = [] := by
            have := hnl.1
            rw [hnv] at this
            exact List.eq_nil_of_length_eq_zero (by omega)
          subst this
          cases hst
          have hnv0 : nv = [] := hnl.nil_inv
          subst hnv0
          obtain ⟨r1, _⟩ := run_append_of (P := P) (w := w) (ty := ty) (s' := .slice (some a) 0 0) h0 hu hz hes hby hinf hz0 hzs rfl (by omega) hnv hzt hzf
          exact ⟨_, w, e, r1 (Nat.le_refl _) w (fun a ha => by simp [storeCells]) (by simp), e.le_refl, h, .sliceE ..⟩
      · cases ha
    | false =>
      rw [hcap] at ha
      simp only [cond_false] at ha
      have hcap' : cap < len + n := by
        rcases Nat.lt_or_ge cap (len + n) with q | q
        · exact q
        · have q2 : Nat.ble (len + n) cap = true := by rw [Nat.ble_eq]; exact q
          rw [q2] at hcap; cases hcap
      cases hex : ex with
      | true =>
        rw [hex] at ha
        simp only [cond_true] at ha
        split at ha
        · rename_i old hold
          split at ha
          · rename_i j H2 hnc
            cases ha
            have key : ∀ (base : Addr) (c0 : Nat) (ov : List Value), s' = .slice (some base) len c0 → c0 < len + n → VRL e old ov → ov.length = len * es →
                (∀ w1 : World, w1.heap = w.heap → (Builtin.firstCells es len (.slice (some base) len c0)).run P w1 = .ok ov.toArray w1) →
                ∃ v' w' e', (Builtin.append_ argT ty #[s', x']).run P w = .ok v' w' ∧ e.le e' ∧ RH G F W e' H' w' ∧ VR e' (.slice j 0 (len + n) (len + n) false es) v' := by
              intro base c0 ov hse hlt hov hol hrun
              obtain ⟨_, r2⟩ := run_append_of (P := P) (w := w) (ty := ty) (s' := s') h0 hu hz hes hby hinf hz0 hzs hse (by omega) hnv hzt hzf
              obtain ⟨c, hc, hr⟩ := r2 hlt ov (by rw [hse]; exact hrun)
              obtain ⟨e', he, g1, g2, g3, g4, hrh⟩ := (h.drawn (w.drawn + 1)).newRow (rest := (List.replicate (c - (len + n)) z0.cells.toList).flatten) (fz := (0, 0)) hnc (hov.append hnl) (fun _ => rfl) (by simp)
              refine ⟨_, _, e', hr, he, hrh, ?_⟩
              have hb2 : w.heap.size = e'.b j := g2.symm
              rw [hb2]
              refine .slice j 0 (len + n) (len + n) false es 0 c g1 (by rw [g3]; simp) hc hc (by simp) ?_
              rw [g4]
              have : ((List.replicate (c - (len + n)) z0.cells.toList).flatten).length = (c - (len + n)) * es := by simp [hzs]
              rw [List.length_append, List.length_append, hnv, hol, this, ← Nat.add_mul, ← Nat.add_mul]
              have : len + n + (c - (len + n)) = c := by omega
              rw [this]; omega
            rcases hs.slice_inv with ⟨o, c, hi, ho, hl, hc, hxx, hn, hse⟩ | ⟨rfl, rfl, a, hse⟩
            · obtain ⟨ov, h1, h2, h3⟩ := h.loads hold ho
              exact key _ c ov hse (by have := hxx hex; omega) h1 h2 (run_first w h2 h3)
            · rw [Nat.zero_mul] at hold
              cases hold
              exact key a 0 [] hse hcap' (.nil e) (by simp) (fun w1 _ => by simp [Builtin.firstCells, loadCells, loadCellsFrom])
          · cases ha
        · cases ha
      | false =>
        rw [hex] at ha
        simp only [cond_false] at ha
        split at ha
        · rename_i c lo hi el' fl hg
          cases hb3 : (Nat.ble fl 1 && Nat.ble lo off && Nat.ble (off + len * es) hi && Nat.beq el el' && Nat.ble (off + len * es) 8589934592 && Nat.ble new.length 16777216) with
          | false => rw [hb3] at ha; cases ha
          | true =>
          rw [hb3] at ha
          simp only [cond_true] at ha
          simp only [Bool.and_eq_true, Nat.ble_eq] at hb3
          obtain ⟨⟨⟨⟨⟨b1, b2⟩, b3⟩, b4⟩, b5⟩, b6⟩ := hb3
          have hel : el = el' := Nat.eq_of_beq_eq_true b4
          subst hel
          split at ha
          · rename_i j H2 hal
            cases ha
            have hnewl : new.length = n * es := by rw [← hnl.1]; exact hnv
            have hnes : off + (len + n) * es = off + len * es + n * es := by rw [Nat.add_mul]; omega
            have hputs : ∀ k, (c.puts (off + len * es) new).get k = if off + len * es ≤ k ∧ k < off + len * es + new.length then new[k - (off + len * es)]? else c.get k := fun k => Tr.get_puts c _ _ _ _ (by omega)
            have newcase : ∀ (base : Addr) (c0 : Nat) (ov : List Value), s' = .slice (some base) len c0 → c0 < len + n → ov.length = len * es →
                (∀ k v, off ≤ k → k < off + len * es → c.get k = some v → ∃ v', ov[k - off]? = some v' ∧ VR e v v') →
                (∀ w1 : World, w1.heap = w.heap → (Builtin.firstCells es len (.slice (some base) len c0)).run P w1 = .ok ov.toArray w1) →
                ∃ v' w' e', (Builtin.append_ argT ty #[s', x']).run P w = .ok v' w' ∧ e.le e' ∧ RH G F W e' H' w' ∧ VR e' (.slice j off (len + n) (len + n) false es) v' := by
              intro base c0 ov hse hlt hol hov hrun
              obtain ⟨_, r2⟩ := run_append_of (P := P) (w := w) (ty := ty) (s' := s') h0 hu hz hes hby hinf hz0 hzs hse (by omega) hnv hzt hzf
              obtain ⟨cc, hcc, hr⟩ := r2 hlt ov (by rw [hse]; exact hrun)
              have hd := (h.drawn (w.drawn + 1)).del i
              have hj := (alloc_some hal).1
              have hj' : j = e.N := hj.trans h.N.symm
              subst hj'
              have hrl : ((List.replicate (cc - (len + n)) z0.cells.toList).flatten).length = (cc - (len + n)) * es := by simp [hzs]
              have hsz : (ov ++ nv ++ (List.replicate (cc - (len + n)) z0.cells.toList).flatten).length = cc * es := by
                rw [List.length_append, List.length_append, hnv, hol, hrl, ← Nat.add_mul, ← Nat.add_mul]
                congr 1; omega
              have hor : OR (e.ext w.heap.size (-(off : Int)) (cc * es)) e.N (.cells (c.puts (off + len * es) new) off (off + (len + n) * es) el 1) (.cells (ov ++ nv ++ (List.replicate (cc - (len + n)) z0.cells.toList).flatten).toArray el (0, 0)) := by
                refine .cells _ _ _ _ _ _ _ (by rw [Em.ext_n]; simpa using hsz) ?_ (by simp) (by simp) (fun q => by rw [Em.ext_d]; omega)
                intro k u hk1 hk2 hk
                rw [hputs] at hk
                refine ⟨k - off, by rw [Em.ext_d]; omega, ?_⟩
                simp only [List.getElem?_toArray]
                split at hk
                · rename_i hin
                  obtain ⟨u', hu', hvr⟩ := hnl.get hk
                  refine ⟨u', ?_, hvr.mono (Em.le_ext ..)⟩
                  rw [List.getElem?_append_left (by rw [List.length_append, hol, hnv]; omega), List.getElem?_append_right (by rw [hol]; omega), hol]
                  rw [← hu']; congr 1; omega
                · rename_i hin
                  obtain ⟨u', hu', hvr⟩ := hov k u hk1 (by omega) hk
                  refine ⟨u', ?_, hvr.mono (Em.le_ext ..)⟩
                  have : k - off < ov.length := (List.getElem?_eq_some_iff.1 hu').1
                  rw [List.getElem?_append_left (by rw [List.length_append]; omega), List.getElem?_append_left this]
                  exact hu'
              obtain ⟨_, hrh⟩ := hd.alloc hal hor
              refine ⟨_, _, _, hr, Em.le_ext .., hrh, ?_⟩
              exact VR.slice_at (e := e.ext w.heap.size (-(off : Int)) (cc * es)) (Em.ext_b ..) (by simp [Em.ext]) (by rw [Em.ext_d]; omega) hcc hcc (by simp) (by rw [Em.ext_n]; omega)
            obtain ⟨hN, ob, hob, hor, hF⟩ := h.obj i _ hg
            cases hor with
            | cells _ _ _ _ _ C fz hCn hcc h0' h1' hd =>
            rcases hs.slice_inv with ⟨o, c0, hi2, ho, hl, hc, hxx, hn, hse⟩ | ⟨rfl, rfl, a, hse⟩
            · have hlen : len * es ≤ c0 * es := Nat.mul_le_mul_right _ hl
              by_cases hin : len + n ≤ c0
              · -- in place
                have hnn : (len + n) * es ≤ c0 * es := Nat.mul_le_mul_right _ hin
                have hnn' : (len + n) * es = len * es + n * es := Nat.add_mul ..
                obtain ⟨w', C', r1, r2, r3, r4, r5, r6, r7, r8, r9⟩ := run_stores (P := P) (e.b i) (o + len * es) el fz nv 0 w C hob (by rw [hnv]; omega) (h1' b1) (hnl.one hone)
                obtain ⟨q1, _⟩ := run_append_of (P := P) (w := w) (ty := ty) (s' := s') h0 hu hz hes hby hinf hz0 hzs hse (by omega) hnv hzt hzf
                have hj := (alloc_some hal).1
                have hj' : j = e.N := hj.trans h.N.symm
                subst hj'
                have hor2 : OR (e.ext (e.b i) (e.d i) (e.n i)) e.N (.cells (c.puts (off + len * es) new) off (off + (len + n) * es) el 1) (.cells C' el fz) := by
                  refine .cells _ _ _ _ _ _ _ (by rw [Em.ext_n, r3, hCn]) ?_ (by simp) (fun _ k hk => h1' b1 k (by omega)) (fun q => by rw [Em.ext_d]; exact hd (by omega))
                  intro k u hk1 hk2 hk
                  rw [hputs] at hk
                  split at hk
                  · rename_i hin2
                    obtain ⟨u', hu', hvr⟩ := hnl.get hk
                    refine ⟨o + (k - off), by rw [Em.ext_d]; omega, u', ?_, hvr.mono (Em.le_ext ..)⟩
                    rw [r4, if_pos (by rw [hnv]; omega), ← hu']
                    congr 1; omega
                  · rename_i hin2
                    obtain ⟨k2, hk2', u', hu', hvr⟩ := hcc k u (by omega) (by omega) hk
                    refine ⟨k2, by rw [Em.ext_d]; exact hk2', u', ?_, hvr.mono (Em.le_ext ..)⟩
                    rw [r4, if_neg (by omega)]
                    exact hu'
                obtain ⟨_, hrh⟩ := h.move hg (by simp [wr, b1]) hal r6 r2 r5 hor2 r7 r8 r9
                refine ⟨_, w', _, q1 hin w' (fun a ha => ?_) (by simp), Em.le_ext .., hrh, ?_⟩
                · cases ha
                  rw [add_lit]; exact r1
                · exact VR.slice_at (e := e.ext (e.b i) (e.d i) (e.n i)) (Em.ext_b ..) (by simp [Em.ext]) (by rw [Em.ext_d]; exact ho) hin hin (by simp) (by rw [Em.ext_n]; exact hn)
              · refine newcase _ c0 ((C.toList.drop o).take (len * es)) hse (by omega) ?_ ?_ ?_
                · simp; omega
                · intro k u hk1 hk2 hk
                  obtain ⟨k2, hk2', u', hu', hvr⟩ := hcc k u (by omega) (by omega) hk
                  refine ⟨u', ?_, hvr⟩
                  rw [List.getElem?_take, if_pos (by omega), List.getElem?_drop, Array.getElem?_toList, ← hu']
                  congr 1; omega
                · refine run_first w (by simp; omega) (fun m u hm => ?_)
                  rw [List.getElem?_take] at hm
                  split at hm
                  · rw [List.getElem?_drop, Array.getElem?_toList] at hm
                    simp [World.cell?, hob, hm]
                  · cases hm
            · refine newcase a 0 [] hse (by omega) (by simp) (fun k u hk1 hk2 hk => by omega) (fun w1 _ => by simp [Builtin.firstCells, loadCells, loadCellsFrom])
          · cases ha
        · cases ha
  · cases ha
end
end Go.Proofs.YtclnlapcgcbomaaGreatDoor.Am
namespace Go.Proofs.YtclnlapcgcbomaaGreatDoor.Am
set_option linter.unusedVariables false
set_option linter.unusedSimpArgs false
section
variable {P : Program} {G : Nat} {F : Nat → Prop} {W : World} {e : Em} {H : Hp} {w : World}

theorem VR.plain1 {a b : AV} {a' b' : Value} (ha : VR e a a') (hb : VR e b b') (h : sameK1 a b = true) : a' = b' ∧ ∀ n, Instr.sameBits n a' b' = true := by
  unfold sameK1 at h
  split at h
  · cases ha.bool_inv; cases hb.bool_inv
    simp only [beq_iff_eq] at h
    subst h; exact ⟨rfl, fun n => by simp [Instr.sameBits]⟩
  · cases ha.int_inv; cases hb.int_inv
    simp only [Bool.and_eq_true, decide_eq_true_eq] at h
    obtain ⟨rfl, rfl⟩ := h
    exact ⟨rfl, fun n => by simp [Instr.sameBits]⟩
  · obtain ⟨p, rfl, rfl⟩ := ha.str_inv
    obtain ⟨q, rfl, rfl⟩ := hb.str_inv
    have : (p == q) = true := by rw [str_beq]; exact h
    have hpq : p = q := by
      have h0 : (p == q) = (p.data == q.data) := by cases p; cases q; rfl
      rw [h0, beq_iff_eq] at this
      cases p; cases q; simpa using this
    subst hpq
    exact ⟨rfl, fun n => by simp [Instr.sameBits, this]⟩
  · cases h

theorem VRL.plain : ∀ {x y : List AV} {x' y' : List Value}, VRL e x x' → VRL e y y' → sameKL x y = true → x' = y' ∧ ∀ n, (x'.zip y').all (fun (a, b) => Instr.sameBits n a b) = true
  | [], [], x', y', hx, hy, h => by rw [hx.nil_inv, hy.nil_inv]; exact ⟨rfl, fun n => rfl⟩
  | [], _ :: _, _, _, _, _, h => by simp [sameKL] at h
  | _ :: _, [], _, _, _, _, h => by simp [sameKL] at h
  | a :: x, b :: y, x', y', hx, hy, h => by
    simp only [sameKL, Bool.and_eq_true] at h
    obtain ⟨a', xs, rfl, ha, hx⟩ := hx.cons_inv
    obtain ⟨b', ys, rfl, hb, hy⟩ := hy.cons_inv
    obtain ⟨h1, h2⟩ := ha.plain1 hb h.1
    obtain ⟨h3, h4⟩ := VRL.plain hx hy h.2
    subst h1; subst h3
    exact ⟨rfl, fun n => by simp only [List.zip_cons_cons, List.all_cons, h2 n, h4 n, Bool.and_self]⟩

theorem VR.plain {a b : AV} {a' b' : Value} (ha : VR e a a') (hb : VR e b b') (h : sameK a b = true) : Instr.sameBits 10000 a' b' = true := by
  unfold sameK at h
  split at h
  · obtain ⟨x, rfl, hx⟩ := ha.agg_inv
    obtain ⟨y, rfl, hy⟩ := hb.agg_inv
    obtain ⟨h1, h2⟩ := hx.plain hy h
    have : x.size = y.size := by have := congrArg List.length h1; simpa using this
    simp only [Instr.sameBits, this, beq_self_eq_true, Bool.true_and]
    exact h2 9999
  · exact (ha.plain1 hb h).2 _

/-- a loop of checks -/
theorem run_forIn_chk {α : Type} (g : α → Bool) (body : α → PUnit → Sem (ForInStep PUnit)) (w : World) (hb : ∀ a, g a = true → (body a ⟨⟩).run P w = .ok (.yield ⟨⟩) w) :
    ∀ l : List α, l.all g = true → (forIn l (⟨⟩ : PUnit) body).run P w = .ok ⟨⟩ w
  | [], _ => by simp
  | a :: l, h => by
    simp only [List.all_cons, Bool.and_eq_true] at h
    rw [List.forIn_cons, Sem.run_bind, hb a h.1]
    exact run_forIn_chk g body w hb l h.2

theorem sound_chk (w : World) (emp : Bool) : ∀ (d D : Nat), d ≤ D → ∀ (t : TypeId) (v : AV) (v' : Value), VR e v v' → chkK P d t v = true → (Instr.checkKey emp D t v').run P w = .ok () w := by
  intro d
  induction d with
  | zero => intro D _ t v v' _ h; cases h
  | succ d ih =>
    intro D hD t v v' hv h
    obtain ⟨D, rfl⟩ : ∃ k, D = k + 1 := ⟨D - 1, by omega⟩
    unfold chkK at h
    split at h
    · rename_i hu; simp [Instr.checkKey, run_und hu]
    · rename_i hu; simp [Instr.checkKey, run_und hu]
    · rename_i hu; simp [Instr.checkKey, run_und hu]
    · rename_i fs cs hu
      obtain ⟨vs, rfl, hl⟩ := hv.agg_inv
      have key := run_forIn_chk (P := P) (g := fun f : Field => if f.name ≠ "_" then (match partA P f.type cs f.offset with | some v => chkK P d f.type v | none => false) else true)
        (body := fun f __s => do
          if f.name ≠ "_" then
            Instr.checkKey emp D f.type (← part f.type vs f.offset)
            Pure.pure (ForInStep.yield PUnit.unit)
          else Pure.pure (ForInStep.yield PUnit.unit)) w (by
          intro f hg
          by_cases hn : f.name = "_"
          · simp [hn]
          · simp only [ne_eq, hn, not_false_eq_true, if_true] at hg
            split at hg
            · rename_i u hu1
              obtain ⟨u', hu', hr⟩ := sound_part hl hu1 w
              have := ih D (by omega) f.type u u' hr hg
              simp [hn, hu', this]
            · cases hg) fs.toList h
      simp [Instr.checkKey, run_und hu] at key ⊢
      simp [key]
    · rename_i n el cs hu
      split at h
      · rename_i s hs
        obtain ⟨vs, rfl, hl⟩ := hv.agg_inv
        have key := run_forIn_chk (P := P) (g := fun i : Nat => match partA P el cs (i * s) with | some v => chkK P d el v | none => false)
          (body := fun i __s => do
            let z ← sizeOf el
            let p ← part el vs (i * z)
            Functor.map (fun a => ForInStep.yield PUnit.unit) (Instr.checkKey emp D el p)) w (by
            intro i hg
            split at hg
            · rename_i u hu1
              obtain ⟨u', hu', hr⟩ := sound_part hl hu1 w
              have := ih D (by omega) el u u' hr hg
              simp [run_sz hs, hu', this]
            · cases hg) (List.range' 0 n) h
        simp [Instr.checkKey, run_und hu]
        exact key
      · cases h
    · cases h

theorem MER.cons_inv {m : ME} {es : List ME} {es' : List MapEntry} (h : MER e (m :: es) es') : ∃ m' r', es' = m' :: r' ∧ VR e m.key m'.key ∧ VR e m.val m'.val ∧ m.born = m'.born ∧ MER e es r' := by
  cases es' with
  | nil => simp [MER] at h
  | cons m' r' =>
    obtain ⟨a, b, c⟩ := h.2 0 m m' rfl rfl
    exact ⟨m', r', rfl, a, b, c, by simpa using h.1, fun i x y hx hy => h.2 (i + 1) x y (by simpa using hx) (by simpa using hy)⟩
theorem MER.nil_inv {es' : List MapEntry} (h : MER e [] es') : es' = [] := by simpa using h.1

def FK (e : Em) (es' : List MapEntry) (i0 : Nat) : Option (Nat × ME) → Option (Nat × Value) → Prop
  | none, none => True
  | some (j, m), some (j', v') => j' = j ∧ i0 ≤ j ∧ VR e m.val v' ∧ ∃ m', es'[j - i0]? = some m' ∧ VR e m.key m'.key ∧ VR e m.val m'.val ∧ m.born = m'.born
  | _, _ => False

theorem sound_findAsk (h : RH G F W e H w) {t : TypeId} {k : AV} {k' : Value} (hk : VR e k k') : ∀ (es : List ME) (es' : List MapEntry) (i : Nat) (r : Option (Nat × ME)), MER e es es' → findK P H t k es i = some r →
    ∃ r', (Instr.findAsking t k' es' i).run P w = .ok r' w ∧ FK e es' i r r'
  | [], es', i, r, hm, hf => by
    rw [hm.nil_inv]
    cases hf
    exact ⟨none, by simp [Instr.findAsking], trivial⟩
  | m :: es, es', i, r, hm, hf => by
    obtain ⟨m', r', rfl, h1, h2, h3, h4⟩ := hm.cons_inv
    unfold findK at hf
    split at hf
    · rename_i heq
      cases hf
      have := sound_eq h 20 Op.maxDepth (by decide) t k m.key k' m'.key true hk h1 heq
      refine ⟨some (i, m'.val), by simp [Instr.findAsking, Op.equal, this], rfl, Nat.le_refl _, h2, m', by simp, h1, h2, h3⟩
    · rename_i heq
      have := sound_eq h 20 Op.maxDepth (by decide) t k m.key k' m'.key false hk h1 heq
      obtain ⟨r2, hr2, hfk⟩ := sound_findAsk h hk es r' (i + 1) r h4 hf
      refine ⟨r2, by simp [Instr.findAsking, Op.equal, this, hr2], ?_⟩
      cases r with
      | none => cases r2 <;> exact hfk
      | some x =>
        obtain ⟨j, mm⟩ := x
        cases r2 with
        | none => exact hfk
        | some y =>
          obtain ⟨j', v'⟩ := y
          obtain ⟨q1, q2, q3, mq, q4, q5⟩ := hfk
          refine ⟨q1, by omega, q3, mq, ?_, q5⟩
          have : j - i = (j - (i + 1)) + 1 := by omega
          rw [this, List.getElem?_cons_succ]; exact q4
    · cases hf

/-- what the model finds at once it finds by asking -/
theorem findNow_asking {d : TypeDesc} {t : TypeId} (hu : P.underlying t = some d) {k' : Value} (w : World) : ∀ (es' : List MapEntry) (i : Nat) (r r2 : Option (Nat × Value)), Instr.findNow d k' es' i = some r → (Instr.findAsking t k' es' i).run P w = .ok r2 w → r = r2
  | [], i, r, r2, h1, h2 => by
    cases h1
    simp [Instr.findAsking] at h2
    exact h2
  | m :: es', i, r, r2, h1, h2 => by
    obtain ⟨mkey, mval, mborn⟩ := m
    unfold Instr.findNow at h1
    obtain ⟨md, hmd⟩ : ∃ md, Op.maxDepth = md + 1 := ⟨9999, rfl⟩
    have hsn : ∀ b, Instr.sameNow d k' mkey = some b → (Op.equal t k' mkey).run P w = .ok b w := by
      intro b hb
      unfold Op.equal
      rw [hmd]
      unfold Instr.sameNow at hb
      split at hb
      · rename_i h1 h2
        split at hb
        · rename_i hkk; cases hb; simp [Op.equalIn, run_und hu, hkk]
        · cases hb
      · rename_i h1 h2; cases hb; simp [Op.equalIn, run_und hu]
      · rename_i h1 h2; cases hb; simp [Op.equalIn, run_und hu]
      · cases hb
    split at h1
    · rename_i hs
      cases h1
      simp [Instr.findAsking, hsn true hs] at h2
      exact h2
    · rename_i hs
      simp [Instr.findAsking, hsn false hs] at h2
      exact findNow_asking hu w es' (i + 1) r r2 h1 h2
    · cases h1

theorem sound_find (h : RH G F W e H w) {t : TypeId} {k : AV} {k' : Value} (hk : VR e k k') {es : List ME} {es' : List MapEntry} {r : Option (Nat × ME)} (hm : MER e es es') (hf : findK P H t k es 0 = some r) {d : TypeDesc} (hu : P.underlying t = some d) :
    ∃ r', (Instr.findKey t k' es').run P w = .ok r' w ∧ FK e es' 0 r r' := by
  obtain ⟨r', hr', hfk⟩ := sound_findAsk (P := P) h hk es es' 0 r hm hf
  refine ⟨r', ?_, hfk⟩
  unfold Instr.findKey
  rw [Sem.run_bind, run_und hu, Result.andThen_ok]
  split
  · rename_i r2 hr2
    rw [findNow_asking hu w es' 0 r2 r' hr2 hr']
    simp
  · exact hr'
end
end Go.Proofs.YtclnlapcgcbomaaGreatDoor.Am
namespace Go.Proofs.YtclnlapcgcbomaaGreatDoor.Am
set_option linter.unusedVariables false
set_option linter.unusedSimpArgs false
section
variable {P : Program} {G : Nat} {F : Nat → Prop} {W : World} {e : Em} {H : Hp} {w : World}

theorem map_at (h : RH G F W e H w) {i : Nat} {es : List ME} {c : Nat} (hg : H.h.get i = some (.map es c)) : i < e.N ∧ ∃ es' : Array MapEntry, w.heap[e.b i]? = some (.map es' c) ∧ MER e es es'.toList := by
  obtain ⟨hN, ob, hob, hor, _⟩ := h.obj i _ hg
  cases hor with
  | map _ _ es' hm => exact ⟨hN, es', hob, hm⟩

theorem sound_mapOf (h : RH G F W e H w) {x : AV} {x' : Value} {es : List ME} {c : Nat} (hx : VR e x x') (hm : mapOf H x = some (es, c)) :
    (x' = .map none ∧ es = [] ∧ c = 0) ∨ ∃ i es', x = .map i ∧ x' = .map (some (e.b i)) ∧ H.h.get i = some (.map es c) ∧ w.heap[e.b i]? = some (.map es' c) ∧ MER e es es'.toList := by
  unfold mapOf at hm
  split at hm
  · cases hx; cases hm; exact .inl ⟨rfl, rfl, rfl⟩
  · rename_i i
    split at hm
    · rename_i es0 c0 hg
      cases hm
      obtain ⟨hi, rfl⟩ := hx.map_inv
      obtain ⟨_, es', h1, h2⟩ := map_at h hg
      exact .inr ⟨i, es', rfl, rfl, hg, h1, h2⟩
    · cases hm
  · cases hm

theorem run_getMap {b : Nat} {es' : Array MapEntry} {c : Nat} (hb : w.heap[b]? = some (.map es' c)) : (getObj b).run P w = .ok (.map es' c) w := by simp [getObj, Sem.run, hb]

theorem chk_und {kt : TypeId} {k : AV} (hc : chkK P 20 kt k = true) : ∃ d, P.underlying kt = some d := by
  cases hq : P.underlying kt with
  | none => simp [chkK, hq] at hc
  | some d => exact ⟨d, rfl⟩

theorem VR.pair {a b : AV} {a' b' : Value} (ha : VR e a a') (hb : VR e b b') : VR e (.tuple [a, b]) (.tuple #[a', b']) :=
  .tuple' (.cons ha (.cons hb (.nil e)))

theorem sound_lookup (h : RH G F W e H w) {t : TypeId} {x k v : AV} {x' k' : Value} {ok : Bool} (hx : VR e x x') (hk : VR e k k') (hl : lookupA P t x k ok H = some v) :
    ∃ v', (Instr.lookup t x' k' ok).run P w = .ok v' w ∧ VR e v v' := by
  unfold lookupA at hl
  split at hl
  · rename_i kt el hu
    cases hc : chkK P 20 kt k with
    | false => rw [hc] at hl; cases hl
    | true =>
    rw [hc] at hl
    simp only [cond_true] at hl
    have hchk : ∀ emp, (Instr.checkKey emp 10000 kt k').run P w = .ok () w := fun emp => sound_chk w emp 20 10000 (by decide) kt k k' hk hc
    obtain ⟨kd, hkd⟩ := chk_und hc
    split at hl
    · rename_i es c hm
      have fin : ∀ (es' : List MapEntry), MER e es es' → ∃ r' v', (Instr.findKey kt k' es').run P w = .ok r' w ∧
          (match r' with
            | some (_, v) => Pure.pure (if ok = true then Value.tuple #[v, Value.bool true] else v)
            | none => Functor.map (fun a=>if ok=true then Value.tuple #[a,Value.bool false] else a) (zeroValue el) : Sem Value).run P w = .ok v' w ∧ VR e v v' := by
        intro es' hmer
        split at hl
        · rename_i j m hf
          obtain ⟨r', hr', hfk⟩ := sound_find (P := P) h hk hmer hf hkd
          cases r' with
          | none => exact hfk.elim
          | some y =>
            obtain ⟨j', u⟩ := y
            obtain ⟨_, _, hv, _⟩ := hfk
            cases hl
            cases ok with
            | true => exact ⟨_, _, hr', by simp, hv.pair (.bool true)⟩
            | false => exact ⟨_, _, hr', by simp, hv⟩
        · rename_i hf
          obtain ⟨r', hr', hfk⟩ := sound_find (P := P) h hk hmer hf hkd
          cases r' with
          | some y => exact hfk.elim
          | none =>
            simp only [Option.map_eq_some_iff, Option.bind_eq_some_iff] at hl
            obtain ⟨z, ⟨z0, ⟨inf, hinf, hz0⟩, hz⟩, rfl⟩ := hl
            have hzr : VR e z z0 := .ofC hz
            cases ok with
            | true => exact ⟨_, _, hr', by simp [run_zero hinf hz0], hzr.pair (.bool false)⟩
            | false => exact ⟨_, _, hr', by simp [run_zero hinf hz0], hzr⟩
        · cases hl
      rcases sound_mapOf h hx hm with ⟨rfl, rfl, _⟩ | ⟨i, es', rfl, rfl, hg, hb, hmer⟩
      · obtain ⟨r', v', h1, h2, h3⟩ := fin [] ⟨rfl, by simp⟩
        refine ⟨v', ?_, h3⟩
        simp [Instr.lookup, run_und hu, hchk, h1]
        exact h2
      · obtain ⟨r', v', h1, h2, h3⟩ := fin es'.toList hmer
        refine ⟨v', ?_, h3⟩
        simp [Instr.lookup, run_und hu, run_getMap hb, hchk, h1]
        exact h2
    · cases hl
  · cases hl

theorem run_setMap {b : Nat} {o : Obj} {es' : Array MapEntry} {c : Nat} (hb : w.heap[b]? = some (.map es' c)) : (Go.setObj b o).run P w = .ok () { w with heap := w.heap.setIfInBounds b o } := by
  simp [Go.setObj, Sem.run, hb]

theorem RH.setMap (h : RH G F W e H w) {i : Nat} {es es2 : List ME} {c c2 : Nat} (hg : H.h.get i = some (.map es c)) {es' : Array MapEntry} (hm : MER e es2 es'.toList) :
    RH G F W e (Am.setObj H i (.map es2 c2)) { w with heap := w.heap.setIfInBounds (e.b i) (.map es' c2) } := by
  obtain ⟨_, es0, hb, _⟩ := map_at h hg
  have hlt := (Array.getElem?_eq_some_iff.1 hb).1
  refine h.put hg rfl (ob' := .map es' c2) (by simp) (by simp [hlt]) (fun k hk => ?_) (.map _ _ _ hm) rfl rfl rfl
  simp only
  rw [Array.getElem?_setIfInBounds_ne (fun q => hk q.symm)]

theorem MER.snoc {es : List ME} {es' : List MapEntry} (h : MER e es es') {m : ME} {m' : MapEntry} (h1 : VR e m.key m'.key) (h2 : VR e m.val m'.val) (h3 : m.born = m'.born) : MER e (es ++ [m]) (es' ++ [m']) := by
  refine ⟨by simp [h.1], fun i x y hx hy => ?_⟩
  by_cases hi : i < es.length
  · rw [List.getElem?_append_left hi] at hx
    rw [List.getElem?_append_left (by rw [h.1]; exact hi)] at hy
    exact h.2 i x y hx hy
  · rw [List.getElem?_append_right (by omega)] at hx
    rw [List.getElem?_append_right (by rw [h.1]; omega), h.1] at hy
    have : i - es.length = 0 := by
      have := (List.getElem?_eq_some_iff.1 hx).1
      simp at this; omega
    rw [this] at hx hy
    simp at hx hy
    subst hx; subst hy
    exact ⟨h1, h2, h3⟩

theorem MER.set {es : List ME} {es' : List MapEntry} (h : MER e es es') (j : Nat) {m : ME} {m' : MapEntry} (h1 : VR e m.key m'.key) (h2 : VR e m.val m'.val) (h3 : m.born = m'.born) : MER e (es.set j m) (es'.set j m') := by
  refine ⟨by simp [h.1], fun i x y hx hy => ?_⟩
  rw [List.getElem?_set] at hx hy
  split at hx
  · rename_i hj
    rw [if_pos hj] at hy
    split at hx
    · split at hy
      · cases hx; cases hy; exact ⟨h1, h2, h3⟩
      · cases hy
    · cases hx
  · rename_i hj
    rw [if_neg hj] at hy
    exact h.2 i x y hx hy

theorem MER.erase {es : List ME} {es' : List MapEntry} (h : MER e es es') (j : Nat) : MER e (es.eraseIdx j) (es'.eraseIdx j) := by
  refine ⟨by simp [List.length_eraseIdx, h.1], fun i x y hx hy => ?_⟩
  rw [List.getElem?_eraseIdx] at hx hy
  split at hx
  · rename_i hj; rw [if_pos hj] at hy; exact h.2 i x y hx hy
  · rename_i hj; rw [if_neg hj] at hy; exact h.2 _ x y hx hy

set_option maxHeartbeats 1000000 in
theorem sound_mapUpd (h : RH G F W e H w) {t : TypeId} {x k v : AV} {x' k' v' : Value} {H' : Hp} (hx : VR e x x') (hk : VR e k k') (hv : VR e v v') (hl : mapUpd P t x k v H = some H') :
    ∃ w', (Instr.mapUpdate t x' k' v').run P w = .ok () w' ∧ RH G F W e H' w' := by
  unfold mapUpd at hl
  split at hl
  · rename_i kt el i hu
    cases hc : chkK P 20 kt k with
    | false => rw [hc] at hl; cases hl
    | true =>
    rw [hc] at hl
    simp only [cond_true] at hl
    have hchk : ∀ emp, (Instr.checkKey emp 10000 kt k').run P w = .ok () w := fun emp => sound_chk w emp 20 10000 (by decide) kt k k' hk hc
    obtain ⟨kd, hkd⟩ := chk_und hc
    obtain ⟨hi, rfl⟩ := hx.map_inv
    split at hl
    · rename_i es c hg
      obtain ⟨_, es', hb, hmer⟩ := map_at h hg
      split at hl
      · rename_i j m hf
        cases hs : sameK m.key k with
        | false => rw [hs] at hl; cases hl
        | true =>
        rw [hs] at hl
        cases hl
        obtain ⟨r', hr', hfk⟩ := sound_find (P := P) h hk hmer hf hkd
        cases r' with
        | none => exact hfk.elim
        | some y =>
          obtain ⟨j', u⟩ := y
          obtain ⟨rfl, _, _, m', hm', hmk, hmv, hmb⟩ := hfk
          rw [Nat.sub_zero] at hm'
          have hsb : Instr.sameBits 10000 m'.key k' = true := hmk.plain hk hs
          have hje : es'[j']? = some m' := by rw [← Array.getElem?_toList]; exact hm'
          have hmod : es'.modify j' (fun e => { e with key := k', val := v' }) = (es'.toList.set j' { m' with key := k', val := v' }).toArray := by
            apply Array.ext_getElem?
            intro q
            have e1 : ∀ l : List MapEntry, l.toArray[q]? = l[q]? := fun l => by simp
            refine Eq.trans ?_ (e1 _).symm
            rw [Array.getElem?_modify, List.getElem?_set, Array.getElem?_toList]
            by_cases hq : j' = q
            · subst hq
              have hlt := (Array.getElem?_eq_some_iff.1 hje).1
              rw [if_pos rfl, if_pos rfl, if_pos (by simpa using hlt), hje]; rfl
            · rw [if_neg hq, if_neg hq]
          refine ⟨{ w with heap := w.heap.setIfInBounds (e.b i) (.map (es'.toList.set j' { m' with key := k', val := v' }).toArray c) }, ?_, h.setMap hg (by simpa using hmer.set (m := { m with key := k, val := v }) (m' := { m' with key := k', val := v' }) j' hk hv hmb)⟩
          simp [Instr.mapUpdate, run_und hu, run_getMap hb, hchk, hr', hje, Instr.keyThatStays, hsb, run_setMap hb, hmod]
      · rename_i hf
        cases hl
        obtain ⟨r', hr', hfk⟩ := sound_find (P := P) h hk hmer hf hkd
        cases r' with
        | some y => exact hfk.elim
        | none =>
          refine ⟨{ w with heap := w.heap.setIfInBounds (e.b i) (.map (es'.push ⟨k', v', c⟩) (c + 1)) }, ?_, h.setMap hg (by simpa using hmer.snoc (m := ⟨k, v, c⟩) (m' := ⟨k', v', c⟩) hk hv rfl)⟩
          simp [Instr.mapUpdate, run_und hu, run_getMap hb, hchk, hr', run_setMap hb]
      · cases hl
    · cases hl
  · cases hl

theorem sound_del (h : RH G F W e H w) {argT : Array TypeId} {ty : TypeId} {x k : AV} {x' k' : Value} {H' : Hp} (hx : VR e x x') (hk : VR e k k') (hl : delA P argT x k H = some H') :
    ∃ w', (Builtin.delete_ argT ty #[x', k']).run P w = .ok (.tuple #[]) w' ∧ RH G F W e H' w' := by
  unfold delA at hl
  split at hl
  · rename_i kt el hq
    obtain ⟨t0, h0, hu⟩ := Option.bind_eq_some_iff.1 hq
    cases hc : chkK P 20 kt k with
    | false => rw [hc] at hl; cases hl
    | true =>
    rw [hc] at hl
    simp only [cond_true] at hl
    have hchk : ∀ emp, (Instr.checkKey emp 10000 kt k').run P w = .ok () w := fun emp => sound_chk w emp 20 10000 (by decide) kt k k' hk hc
    obtain ⟨kd, hkd⟩ := chk_und hc
    split at hl
    · cases hl; cases hx
      exact ⟨w, by simp [Builtin.delete_, h0, run_und hu, hchk], h⟩
    · rename_i i
      obtain ⟨hi, rfl⟩ := hx.map_inv
      split at hl
      · rename_i es c hg
        obtain ⟨_, es', hb, hmer⟩ := map_at h hg
        split at hl
        · rename_i j m hf
          cases hl
          obtain ⟨r', hr', hfk⟩ := sound_find (P := P) h hk hmer hf hkd
          cases r' with
          | none => exact hfk.elim
          | some y =>
            obtain ⟨j', u⟩ := y
            obtain ⟨rfl, _, _, m', hm', hmk, hmv, hmb⟩ := hfk
            have her : (es'.eraseIdxIfInBounds j').toList = es'.toList.eraseIdx j' := by simp [Array.eraseIdxIfInBounds]; split <;> simp_all [List.eraseIdx_of_length_le]
            refine ⟨{ w with heap := w.heap.setIfInBounds (e.b i) (.map (es'.eraseIdxIfInBounds j') c) }, ?_, h.setMap hg (by rw [her]; exact hmer.erase j')⟩
            simp [Builtin.delete_, h0, run_und hu, run_getMap hb, hchk, hr', run_setMap hb]
        · rename_i hf
          cases hl
          obtain ⟨r', hr', hfk⟩ := sound_find (P := P) h hk hmer hf hkd
          cases r' with
          | some y => exact hfk.elim
          | none =>
            have hself : w.heap.setIfInBounds (e.b i) (.map es' c) = w.heap := by
              apply Array.ext_getElem?
              intro q
              by_cases hq : e.b i = q
              · subst hq
                have hlt := (Array.getElem?_eq_some_iff.1 hb).1
                rw [Array.getElem?_setIfInBounds_self_of_lt hlt, hb]
              · rw [Array.getElem?_setIfInBounds_ne hq]
            refine ⟨w, ?_, h⟩
            simp [Builtin.delete_, h0, run_und hu, run_getMap hb, hchk, hr', run_setMap hb, hself]
        · cases hl
      · cases hl
    · cases hl
  · cases hl

theorem sound_clear (h : RH G F W e H w) {argT : Array TypeId} {ty : TypeId} {x : AV} {x' : Value} {H' : Hp} (hx : VR e x x') (hl : clearA P argT x H = some H') :
    ∃ w', (Builtin.clear_ argT ty #[x']).run P w = .ok (.tuple #[]) w' ∧ RH G F W e H' w' := by
  unfold clearA at hl
  split at hl
  · rename_i d hq
    obtain ⟨t0, h0, hu⟩ := Option.bind_eq_some_iff.1 hq
    cases hl; cases hx
    exact ⟨w, by simp [Builtin.clear_, h0, run_und hu], h⟩
  · rename_i d hq
    obtain ⟨t0, h0, hu⟩ := Option.bind_eq_some_iff.1 hq
    cases hl; cases hx
    exact ⟨w, by simp [Builtin.clear_, h0, run_und hu], h⟩
  · rename_i d i hq
    obtain ⟨t0, h0, hu⟩ := Option.bind_eq_some_iff.1 hq
    obtain ⟨hi, rfl⟩ := hx.map_inv
    split at hl
    · rename_i es c hg
      cases hl
      obtain ⟨_, es', hb, hmer⟩ := map_at h hg
      refine ⟨{ w with heap := w.heap.setIfInBounds (e.b i) (.map #[] c) }, ?_, h.setMap hg ⟨rfl, by simp⟩⟩
      simp [Builtin.clear_, h0, run_und hu, run_getMap hb, run_setMap hb]
    · cases hl
  · rename_i el i off n a1 a2 a3 hq
    obtain ⟨t0, h0, hu⟩ := Option.bind_eq_some_iff.1 hq
    split at hl
    · rename_i z hz
      obtain ⟨inf, z0, hinf, hz0, hzr⟩ := zc_some (e := e) hz
      rcases hx.slice_inv with ⟨o, c, hi, ho, hll, hc, hxx, hn, rfl⟩ | ⟨rfl, _, a, rfl⟩
      · cases n with
        | zero =>
          have : rep 0 z = [] := rfl
          rw [this] at hl
          cases hl
          exact ⟨w, by simp [Builtin.clear_, h0, run_und hu], h⟩
        | succ n =>
          have hrl := hzr.rep (n + 1)
          obtain ⟨w', hw', hr⟩ := RH.stores (P := P) (off := off) (k := 0) h hl hrl ho
          have hzz : (Builtin.zeroCells z0.cells (n + 1)).toList = (List.replicate (n + 1) z0.cells.toList).flatten := zerosC rfl _
          refine ⟨w', ?_, hr⟩
          simp only [Builtin.clear_, h0, List.getElem?_toArray, List.getElem?_cons_zero, Sem.run_bind, run_und hu, Result.andThen_ok, run_zero hinf hz0]
          rw [hzz, hw']
          simp
      · have : rep 0 z = [] := rfl
        rw [this] at hl
        cases hl
        exact ⟨w, by simp [Builtin.clear_, h0, run_und hu], h⟩
    · cases hl
  · cases hl

theorem sound_len (h : RH G F W e H w) {argT : Array TypeId} {ty : TypeId} {x v : AV} {x' : Value} (hx : VR e x x') (hl : lenA P argT x H = some v) :
    ∃ v', (Builtin.len_ argT ty #[x']).run P w = .ok v' w ∧ VR e v v' := by
  unfold lenA at hl
  split at hl
  · rename_i s hq
    obtain ⟨t0, h0, hu⟩ := Option.bind_eq_some_iff.1 hq
    obtain ⟨b, rfl, rfl⟩ := hx.str_inv
    cases hl
    rw [bytes_len]
    exact ⟨_, by simp [Builtin.len_, h0, run_und hu]; rfl, .int _ _⟩
  · rename_i n el hq
    obtain ⟨t0, h0, hu⟩ := Option.bind_eq_some_iff.1 hq
    cases hl
    exact ⟨_, by simp [Builtin.len_, h0, run_und hu]; rfl, .int _ _⟩
  · rename_i el hq
    obtain ⟨t0, h0, hu⟩ := Option.bind_eq_some_iff.1 hq
    cases hl; cases hx
    exact ⟨_, by simp [Builtin.len_, h0, run_und hu]; rfl, .int _ _⟩
  · rename_i el a1 a2 n a3 a4 a5 hq
    obtain ⟨t0, h0, hu⟩ := Option.bind_eq_some_iff.1 hq
    cases hl
    rcases hx.slice_inv with ⟨o, c, hi, ho, hll, hc, hxx, hn, rfl⟩ | ⟨rfl, _, a, rfl⟩
    · exact ⟨_, by simp [Builtin.len_, h0, run_und hu]; rfl, .int _ _⟩
    · exact ⟨_, by simp [Builtin.len_, h0, run_und hu]; rfl, .int _ _⟩
  · rename_i kt el hq
    obtain ⟨t0, h0, hu⟩ := Option.bind_eq_some_iff.1 hq
    cases hl; cases hx
    exact ⟨_, by simp [Builtin.len_, h0, run_und hu]; rfl, .int _ _⟩
  · rename_i kt el i hq
    obtain ⟨t0, h0, hu⟩ := Option.bind_eq_some_iff.1 hq
    obtain ⟨hi, rfl⟩ := hx.map_inv
    split at hl
    · rename_i es c hg
      cases hl
      obtain ⟨_, es', hb, hmer⟩ := map_at h hg
      have : es.length = es'.size := by have := hmer.1; simp at this; omega
      rw [this]
      exact ⟨_, by simp [Builtin.len_, h0, run_und hu, run_getMap hb]; rfl, .int _ _⟩
    · cases hl
  · rename_i a hq
    obtain ⟨t0, h0, hu⟩ := Option.bind_eq_some_iff.1 hq
    split at hl
    · rename_i n el hua
      cases hl
      exact ⟨_, by simp [Builtin.len_, h0, run_und hu, run_und hua]; rfl, .int _ _⟩
    · cases hl
  · cases hl

theorem sound_cap {argT : Array TypeId} {ty : TypeId} {x v : AV} {x' : Value} (hx : VR e x x') (hl : capA P argT x = some v) (w : World) :
    ∃ v', (Builtin.cap_ argT ty #[x']).run P w = .ok v' w ∧ VR e v v' := by
  unfold capA at hl
  split at hl
  · rename_i el hq
    obtain ⟨t0, h0, hu⟩ := Option.bind_eq_some_iff.1 hq
    cases hl; cases hx
    exact ⟨_, by simp [Builtin.cap_, h0, run_und hu]; rfl, .int _ _⟩
  · rename_i el a1 a2 n c a5 hq
    obtain ⟨t0, h0, hu⟩ := Option.bind_eq_some_iff.1 hq
    cases hl
    rcases hx.slice_inv with ⟨o, c', hi, ho, hll, hc, hxx, hn, rfl⟩ | ⟨rfl, rfl, a, rfl⟩
    · have := hxx rfl
      subst this
      exact ⟨_, by simp [Builtin.cap_, h0, run_und hu]; rfl, .int _ _⟩
    · exact ⟨_, by simp [Builtin.cap_, h0, run_und hu]; rfl, .int _ _⟩
  · cases hl

theorem sound_minL : ∀ {l : List AV} {ls : List Value} {x v : AV} {x' : Value}, VR e x x' → VRL e l ls → minmaxL false x l = some v → ∃ v', (ls.foldlM Builtin.min2 x').run P w = .ok v' w ∧ VR e v v'
  | [], ls, x, v, x', hx, hl, h => by
    rw [hl.nil_inv]; cases h; exact ⟨x', by simp, hx⟩
  | y :: l, ls, x, v, x', hx, hl, h => by
    obtain ⟨y', ws, rfl, hy, hl'⟩ := hl.cons_inv
    unfold minmaxL at h
    split at h
    · rename_i z hz
      unfold minmax at hz
      split at hz
      · cases hx.int_inv; cases hy.int_inv; cases hz
        obtain ⟨v', h1, h2⟩ := sound_minL (.int _ _) hl' h
        refine ⟨v', ?_, h2⟩
        simp only [List.foldlM_cons, Sem.run_bind, Builtin.min2, Sem.run_pure, Result.andThen_ok]
        exact h1
      · cases hz
    · cases h
theorem sound_maxL : ∀ {l : List AV} {ls : List Value} {x v : AV} {x' : Value}, VR e x x' → VRL e l ls → minmaxL true x l = some v → ∃ v', (ls.foldlM Builtin.max2 x').run P w = .ok v' w ∧ VR e v v'
  | [], ls, x, v, x', hx, hl, h => by
    rw [hl.nil_inv]; cases h; exact ⟨x', by simp, hx⟩
  | y :: l, ls, x, v, x', hx, hl, h => by
    obtain ⟨y', ws, rfl, hy, hl'⟩ := hl.cons_inv
    unfold minmaxL at h
    split at h
    · rename_i z hz
      unfold minmax at hz
      split at hz
      · cases hx.int_inv; cases hy.int_inv; cases hz
        obtain ⟨v', h1, h2⟩ := sound_maxL (.int _ _) hl' h
        refine ⟨v', ?_, h2⟩
        simp only [List.foldlM_cons, Sem.run_bind, Builtin.max2, Sem.run_pure, Result.andThen_ok]
        exact h1
      · cases hz
    · cases h
end
end Go.Proofs.YtclnlapcgcbomaaGreatDoor.Am
namespace Go.Proofs.YtclnlapcgcbomaaGreatDoor.Am
set_option linter.unusedVariables false
set_option linter.unusedSimpArgs false
section
variable {P : Program} {G : Nat} {F : Nat → Prop} {W : World} {e : Em} {H : Hp} {w : World}

theorem sound_copy (h : RH G F W e H w) {argT : Array TypeId} {ty : TypeId} {d x v : AV} {d' x' : Value} {H' : Hp} (hd : VR e d d') (hx : VR e x x') (hl : copyA P argT d x H = some (v, H')) :
    ∃ v' w', (Builtin.copy_ argT ty #[d', x']).run P w = .ok v' w' ∧ RH G F W e H' w' ∧ VR e v v' := by
  unfold copyA at hl
  split at hl
  · rename_i el hq
    obtain ⟨t0, h0, hu⟩ := Option.bind_eq_some_iff.1 hq
    split at hl
    · rename_i es xl hs hxl
      have hlen : (Builtin.lenOf x').run P w = .ok xl w ∧ ∀ m, (Nat.min xl m = 0 → (Builtin.firstCells es (Nat.min xl m) x').run P w = .ok #[] w) := by
        unfold lenS at hxl
        split at hxl
        · cases hxl; cases hx; exact ⟨by simp [Builtin.lenOf], fun m hm => by simp [Builtin.firstCells]⟩
        · cases hxl
          rcases hx.slice_inv with ⟨o, c, hi, ho, hll, hc, hxx, hn, rfl⟩ | ⟨rfl, _, a, rfl⟩
          · exact ⟨by simp [Builtin.lenOf], fun m hm => by simp only [Builtin.firstCells, hm, Nat.zero_mul]; rfl⟩
          · exact ⟨by simp [Builtin.lenOf], fun m hm => by simp only [Builtin.firstCells, hm, Nat.zero_mul]; rfl⟩
        · cases hxl
          obtain ⟨b, rfl, rfl⟩ := hx.str_inv
          refine ⟨by simp [Builtin.lenOf, bytes_len], fun m hm => ?_⟩
          simp only [Builtin.firstCells, hm, Sem.run_pure]
          congr 1
          apply Array.toList_inj.1
          simp
        · cases hxl
      obtain ⟨hlen, hfz⟩ := hlen
      split at hl
      · cases hl; cases hd
        refine ⟨_, w, ?_, h, .int _ _⟩
        have h1 := hfz 0 (Nat.min_zero _)
        simp only [Builtin.copy_, h0, List.getElem?_toArray, List.getElem?_cons_zero, List.getElem?_cons_succ, Sem.run_bind, run_und hu, Result.andThen_ok, hlen, run_sz hs, h1]
        simp [goInt]
      · rename_i i off dl a1 a2 a3
        cases hz : Nat.beq (Nat.min xl dl) 0 with
        | true =>
          rw [hz] at hl
          cases hl
          have hm : Nat.min xl dl = 0 := Nat.eq_of_beq_eq_true hz
          have h1 := hfz dl hm
          rcases hd.slice_inv with ⟨o, c, hi, ho, hll, hc, hxx, hn, rfl⟩ | ⟨rfl, _, a, rfl⟩
          · refine ⟨_, w, ?_, h, .int _ _⟩
            simp only [Builtin.copy_, h0, List.getElem?_toArray, List.getElem?_cons_zero, List.getElem?_cons_succ, Sem.run_bind, run_und hu, Result.andThen_ok, hlen, run_sz hs, h1]
            simp [goInt, storeCells, hm]
          · refine ⟨_, w, ?_, h, .int _ _⟩
            simp only [Builtin.copy_, h0, List.getElem?_toArray, List.getElem?_cons_zero, List.getElem?_cons_succ, Sem.run_bind, run_und hu, Result.andThen_ok, hlen, run_sz hs, h1]
            simp [goInt, storeCells, hm]
        | false =>
          rw [hz] at hl
          simp only [cond_false] at hl
          split at hl
          · rename_i cs hcs
            simp only [Option.map_eq_some_iff, Prod.mk.injEq] at hl
            obtain ⟨H2, hst, rfl, rfl⟩ := hl
            have hcv : ∃ vs : List Value, VRL e cs vs ∧ (Builtin.firstCells es (Nat.min xl dl) x').run P w = .ok vs.toArray w := by
              unfold cellsX at hcs
              split at hcs
              · rename_i j joff jl b1 b2 b3
                rcases hx.slice_inv with ⟨o, c, hi, ho, hll, hc, hxx, hn, rfl⟩ | ⟨rfl, _, a, rfl⟩
                · obtain ⟨vs, q1, q2, q3⟩ := h.loads hcs ho
                  refine ⟨vs, q1, ?_⟩
                  have := run_loadCells_list (P := P) w ⟨e.b j, o, none⟩ vs (fun k u hk => by rw [add_lit]; exact q3 k u hk)
                  rw [q2] at this
                  simp [Builtin.firstCells, this]
                · cases hxl
                  have : Nat.min 0 dl = 0 := Nat.zero_min _
                  rw [this] at hz; cases hz
              · obtain ⟨b, rfl, rfl⟩ := hx.str_inv
                cases hcs
                cases hxl
                refine ⟨((b.extract 0 (Nat.min (bytes b).length dl)).data.toList).map fun u => Value.int .u8 u.toNat, ?_, ?_⟩
                · have hb0 := VRL.bytes_extract b 0 (Nat.min (bytes b).length dl)
                  rw [List.drop_zero, Nat.sub_zero] at hb0
                  rw [hb0]
                  refine ⟨by simp [bytes], fun k u v' hu hv' => ?_⟩
                  simp only [bytes, List.map_map, List.getElem?_map, Option.map_eq_some_iff] at hu hv'
                  obtain ⟨p, hp, rfl⟩ := hu
                  obtain ⟨p', hp', rfl⟩ := hv'
                  rw [hp] at hp'; cases hp'
                  exact .int _ _
                · simp only [Builtin.firstCells, Sem.run_pure]
                  congr 1
                  apply Array.toList_inj.1
                  simp
              · cases hcs
            obtain ⟨vs, hvl, hfc⟩ := hcv
            rcases hd.slice_inv with ⟨o, c, hi, ho, hll, hc, hxx, hn, rfl⟩ | ⟨rfl, _, a, rfl⟩
            · obtain ⟨w', hw', hr⟩ := RH.stores (P := P) (off := off) (k := 0) h hst hvl ho
              refine ⟨_, w', ?_, hr, .int _ _⟩
              simp only [Builtin.copy_, h0, List.getElem?_toArray, List.getElem?_cons_zero, List.getElem?_cons_succ, Sem.run_bind, run_und hu, Result.andThen_ok, hlen, run_sz hs, hfc, hw']
              simp [goInt]
            · have : Nat.min xl 0 = 0 := Nat.min_zero _
              rw [this] at hz; cases hz
          · cases hl
      · cases hl
    · cases hl
  · cases hl

theorem liesAt_mid {el : TypeId} (hc : P.cellsOf el = 1) (count o n : Nat) (hn : o + n ≤ count) : liesAt P P.depth el count o el n = true := by
  have hd : P.depth = (2 * (P.types.size + Made.depth) + 1) + 1 := rfl
  rw [hd]
  simp only [liesAt, Bool.or_eq_true]
  left
  rw [hd]
  simp [rowAt, hc, hn, sameLayout, Nat.mod_one]

theorem run_lb {b : Nat} (w : World) : ∀ (us : List UInt8) (o : Nat) (acc : ByteArray), (∀ j v, (us.map (fun u => Value.int .u8 u.toNat))[j]? = some v → w.cell? ⟨b, o + j, none⟩ = some v) →
    (loadBytes ⟨b, o, none⟩ acc us.length).run P w = .ok ⟨acc.data ++ us.toArray⟩ w
  | us, o, acc, h => by
    have := Go.Lib.run_loadBytes (P := P) w us ⟨b, o, none⟩ acc (fun j x hj => by rw [add_lit]; exact h j _ (by simp [hj]))
    exact this

theorem frozen_at {b o n : Nat} {C : Array Value} {el : TypeId} {fz : Nat × Nat} (hob : w.heap[b]? = some (.cells C el fz)) (hn : ¬ n = 0) :
    ∃ fz2, (w.freeze ⟨b, o, none⟩ n).heap[b]? = some (.cells C el fz2) ∧ (∀ k, k ≠ b → (w.freeze ⟨b, o, none⟩ n).heap[k]? = w.heap[k]?) ∧ (w.freeze ⟨b, o, none⟩ n).heap.size = w.heap.size := by
  simp only [World.freeze, if_neg hn]
  refine ⟨_, get_modify_same _ _ _ hob, fun k hk => get_modify_ne _ _ _ _ (fun q => hk q.symm), by simp⟩

theorem sound_unsafeStr (h : RH G F W e H w) {argT : Array TypeId} {ty : TypeId} {p v : AV} {n : Int} {k : IntKind} {p' : Value} {H' : Hp} (hp : VR e p p') (hl : unsafeStrA P argT p k n H = some (v, H')) :
    ∃ v' w', (Builtin.unsafeString_ argT ty #[p', .int k n]).run P w = .ok v' w' ∧ RH G F W e H' w' ∧ VR e v v' := by
  have hmax : IntKind.i64.max = 9223372036854775807 := rfl
  unfold unsafeStrA at hl
  split at hl
  rotate_left
  · cases hl
  rename_i t0 t1 hargs
  obtain rfl : argT = #[t0, t1] := Array.toList_inj.1 hargs
  have hnone : ∀ q : Option Addr, n = 0 → (Builtin.unsafeString_ #[t0, t1] ty #[.pointer q, .int .i64 n]).run P w = .ok (.string .empty) w := by
    intro q hn
    subst hn
    exact Go.Lib.run_unsafeString_none (P := P) w t0 t1 ty q
  split at hl
  · rename_i el hu
    cases hp
    split at hl
    · rename_i hn; cases hl
      exact ⟨.string .empty, w, hnone _ hn, h, .str .empty⟩
    · cases hl
  · rename_i el i off hu
    obtain ⟨o, hi, ho, rfl⟩ := hp.ptr_inv
    split at hl
    · rename_i hn; cases hl
      exact ⟨.string .empty, w, hnone _ hn, h, .str .empty⟩
    · rename_i hn0
      split at hl
      · rename_i c lo hi' el' fl hg
        split at hl
        · rename_i hc
          obtain ⟨rfl, hc1, hn1, hn2, hfl⟩ := hc
          simp only [Option.map_eq_some_iff, Option.bind_eq_some_iff, Prod.mk.injEq] at hl
          obtain ⟨bs, ⟨cs, hcs, hbs⟩, rfl, rfl⟩ := hl
          obtain ⟨vs, q1, q2, q3⟩ := h.loads hcs ho
          obtain ⟨us, rfl, rfl⟩ := toBytes_sound hbs q1
          rw [List.length_map] at q2
          obtain ⟨_, ob, hob, hor, hF⟩ := h.obj i _ hg
          cases hor with
          | cells _ _ _ _ _ C fz hn hcc h0' h1 hd =>
          have hlast : o + n.toNat ≤ C.size := by
            obtain ⟨m, hm⟩ : ∃ m, us.length = m + 1 := ⟨us.length - 1, by omega⟩
            have hq := q3 m (Value.int .u8 (us[m]'(by omega)).toNat) (by simp [hm])
            simp only [World.cell?, hob] at hq
            have hq2 := (Array.getElem?_eq_some_iff.1 hq).1
            omega
          have hsh : w.shape? (e.b i) = some (el, C.size) := by simp [World.shape?, hob]
          have hva : liesAt P P.depth el (C.size / P.cellsOf el) o el n.toNat = true := by
            rw [hc1, Nat.div_one]; exact liesAt_mid hc1 _ _ _ hlast
          have hlb := run_lb (P := P) (b := e.b i) w us o .empty q3
          rw [q2] at hlb
          have hnot : ¬ (n > IntKind.i64.max) := by rw [hmax]; omega
          have hneg : ¬ n < 0 := by omega
          have hdef : Builtin.unsafeString_ #[t0, t1] ty #[.pointer (some ⟨e.b i, o, none⟩), .int .i64 n] =
            (do
              let n ← asInt (.int .i64 n)
              if n < 0 then runtimePanic (.error "unsafe.String: len out of range")
              if n > IntKind.i64.max then unsupported (.unsafePointer "String: a length above the largest int")
              if n = 0 then Pure.pure (.string .empty)
              else if ← variablesAt ⟨e.b i, o, none⟩ (← elemOf t0) n.toNat then do
                let s ← loadBytes ⟨e.b i, o, none⟩ .empty n.toNat
                Go.freeze ⟨e.b i, o, none⟩ n.toNat
                Pure.pure (.string s)
              else unsupported (.unsafePointer "String: not so many bytes at ptr")) := rfl
          have hnot2 : ¬ (9223372036854775807 < n) := by omega
          have hnn : ¬ n.toNat = 0 := by omega
          obtain ⟨fz2, g1, g2, g3⟩ := frozen_at (w := w) (o := o) hob hnn
          refine ⟨.string ⟨us.toArray⟩, w.freeze ⟨e.b i, o, none⟩ n.toNat, ?_, ?_, .str ⟨us.toArray⟩⟩
          · rw [hdef]
            simp [asInt, asIntOf, hmax, hneg, hnot2, hn0, elemOf, run_und hu, variablesAt, hsh, hva, hlb]
          · refine h.put hg (by simp [wr, hfl]) g3 g1 g2 (.cells _ _ _ _ _ _ _ hn hcc (by simp) (by simp) hd) ?_ ?_ ?_
            · simp [World.freeze, hnn]
            · simp [World.freeze, hnn]
            · simp [World.freeze, hnn]
        · cases hl
      · cases hl
  · cases hl
end
end Go.Proofs.YtclnlapcgcbomaaGreatDoor.Am
