/- The evaluator's operations are sound, first part (of no program). -/
import Derived.Test.YtehhgkgeldinkaaGreatDoorAm1
set_option linter.unusedVariables false
set_option linter.unusedSimpArgs false
namespace Go.Proofs.YtehhgkgeldinkaaGreatDoor.Am
set_option linter.unusedVariables false
set_option linter.unusedSimpArgs false

def Res (P : Program) (G : Nat) (F : Nat → Prop) (W : World) (e : Em) (v : AV) (H' : Hp) (r : Result Next) : Prop :=
  ∃ n w' e' v', r = .ok n w' ∧ (n = .value v' ∨ (n = .skip ∧ v' = undef)) ∧ e.le e' ∧ RH G F W e' H' w' ∧ VR e' v v'

section
variable {P : Program} {G : Nat} {F : Nat → Prop} {W : World} {e : Em} {H : Hp} {w : World}

theorem Res.pure {s : Sem Value} {v : AV} {v' : Value} (h : RH G F W e H w) (hs : s.run P w = .ok v' w) (hv : VR e v v') :
    Res P G F W e v H ((do Pure.pure (Next.value (← s)) : Sem Next).run P w) :=
  ⟨.value v', w, e, v', by simp [hs], .inl rfl, e.le_refl, h, hv⟩
theorem Res.val {s : Sem Value} {v : AV} {v' : Value} {e' : Em} {H' : Hp} {w' : World} (hs : s.run P w = .ok v' w') (he : e.le e') (h : RH G F W e' H' w') (hv : VR e' v v') :
    Res P G F W e v H' ((do Pure.pure (Next.value (← s)) : Sem Next).run P w) :=
  ⟨.value v', w', e', v', by simp [hs], .inl rfl, he, h, hv⟩
theorem VR.undef : VR e undefA undef := .tuple [] #[] rfl (by simp)
theorem Res.unit {s : Sem Unit} {e' : Em} {H' : Hp} {w' : World} (hs : s.run P w = .ok () w') (he : e.le e') (h : RH G F W e' H' w') :
    Res P G F W e undefA H' ((do s; Pure.pure Next.skip : Sem Next).run P w) :=
  ⟨.skip, w', e', _, by simp [hs], .inr ⟨rfl, rfl⟩, he, h, .undef⟩

theorem VR.ofS {v : Value} {a : AV} (h : ofS v = some a) : VR e a v := by
  unfold Am.ofS at h
  split at h <;> simp only [Option.some.injEq, reduceCtorEq] at h <;> subst h <;> constructor
theorem VRL.ofS : ∀ {vs : List Value} {l : List AV}, vs.mapM Am.ofS = some l → VRL e l vs
  | [], l, h => by simp at h; subst h; exact .nil e
  | v :: vs, l, h => by
    simp only [List.mapM_cons, Option.bind_eq_bind, Option.pure_def, Option.bind_eq_some_iff, Option.some.injEq] at h
    obtain ⟨a, ha, r, hr, rfl⟩ := h
    exact .cons (.ofS ha) (VRL.ofS hr)
theorem VR.ofC {v : Value} {a : AV} (h : ofC v = some a) : VR e a v := by
  unfold Am.ofC at h
  split at h
  · simp only [Option.map_eq_some_iff] at h
    obtain ⟨l, hl, rfl⟩ := h
    have := VRL.ofS (e := e) hl
    exact .agg _ _ this.1 this.2
  · simp only [Option.map_eq_some_iff] at h
    obtain ⟨l, hl, rfl⟩ := h
    have := VRL.ofS (e := e) hl
    exact .tuple _ _ this.1 this.2
  · simp only [Option.map_eq_some_iff] at h
    obtain ⟨l, hl, rfl⟩ := h
    exact .iface _ _ _ (.ofS hl)
  · exact .ofS h

theorem zc_some {t : TypeId} {l : List AV} (h : zc P t = some l) : ∃ i z, P.info? t = some i ∧ i.zero = some z ∧ VRL e l z.cells.toList := by
  simp only [zc, Option.bind_eq_bind, Option.bind_eq_some_iff] at h
  obtain ⟨i, hi, z, hz, hl⟩ := h
  exact ⟨i, z, hi, hz, .ofS hl⟩
theorem run_zero {t : TypeId} {i : TypeInfo} {z : Value} (hi : P.info? t = some i) (hz : i.zero = some z) (w : World) : (zeroValue t).run P w = .ok z w := by
  simp [zeroValue, run_inf hi, hz]

theorem sound_alloc (h : RH G F W e H w) {t : TypeId} {l : List AV} {i : Nat} {H' : Hp} (hz : zc P t = some l) (hn : newCells H l t 0 = some (i, H')) :
    ∃ v' w' e', (Instr.alloc t true (.tuple #[])).run P w = .ok v' w' ∧ e.le e' ∧ RH G F W e' H' w' ∧ VR e' (.ptr i 0) v' := by
  obtain ⟨inf, z, hi, hz0, hl⟩ := zc_some (e := e) hz
  obtain ⟨e', he, h1, h2, h3, h4, hr⟩ := h.newRow (rest := []) (fz := (0, 0)) hn hl (fun _ => rfl) (by simp)
  refine ⟨.pointer (some ⟨w.heap.size, 0, none⟩), _, e', ?_, he, hr, ?_⟩
  · simp [Instr.alloc, run_zero hi hz0, newVar, Go.newRow]
  · rw [← h2]; exact .ptr i 0 0 h1 (by rw [h3]; simp)

theorem sound_box (h : RH G F W e H w) {t : TypeId} {v : AV} {v' : Value} {l : List AV} {i : Nat} {H' : Hp} (hv : VR e v v') (hz : cellsV v = some l) (hn : newCells H l t 0 = some (i, H')) :
    ∃ u w' e', (Instr.box t v').run P w = .ok u w' ∧ e.le e' ∧ RH G F W e' H' w' ∧ VR e' (.ptr i 0) u := by
  have hl := hv.cells hz
  obtain ⟨e', he, h1, h2, h3, h4, hr⟩ := h.newRow (rest := []) (fz := (0, 0)) hn hl (fun _ => rfl) (by simp)
  refine ⟨.pointer (some ⟨w.heap.size, 0, none⟩), _, e', ?_, he, hr, ?_⟩
  · simp [Instr.box, newVar, Go.newRow]
  · rw [← h2]; exact .ptr i 0 0 h1 (by rw [h3]; simp)

theorem sound_part {t : TypeId} {cs : List AV} {vs : Array Value} {off : Nat} {v : AV} (hl : VRL e cs vs.toList) (hp : partA P t cs off = some v) (w : World) :
    ∃ v', (part t vs off).run P w = .ok v' w ∧ VR e v v' := by
  simp only [partA, Option.bind_eq_bind, Option.bind_eq_some_iff] at hp
  obtain ⟨b, hb, hp⟩ := hp
  cases b with
  | true =>
    simp only [if_true, Option.bind_eq_some_iff] at hp
    obtain ⟨n, hn, hp⟩ := hp
    cases hc : Nat.ble (off + n) cs.length with
    | false => rw [hc] at hp; cases hp
    | true =>
      rw [hc] at hp
      simp only [cond_true, Option.some.injEq] at hp
      subst hp
      refine ⟨.agg (vs.extract off (off + n)), by simp [part, run_agg hb, run_sz hn], ?_⟩
      have := (hl.drop off).take n
      have e2 : (vs.extract off (off + n)).toList = (vs.toList.drop off).take n := by simp [Array.toList_extract, List.extract]
      exact .agg _ _ (by rw [e2]; exact this.1) (by rw [e2]; exact this.2)
  | false =>
    simp only [Bool.false_eq_true, if_false] at hp
    obtain ⟨v', hv', hr⟩ := hl.get hp
    rw [Array.getElem?_toList] at hv'
    exact ⟨v', by simp [part, run_agg hb, hv'], hr⟩

theorem sound_field {t : TypeId} {x v : AV} {x' : Value} {f : Nat} {fs : Array Field} {fd : Field} (hx : VR e x x') (hu : P.underlying t = some (.struct fs)) (hf : fs[f]? = some fd)
    {cs : List AV} (hxs : x = .agg cs) (hp : partA P fd.type cs fd.offset = some v) (w : World) : ∃ v', (Instr.field t x' f).run P w = .ok v' w ∧ VR e v v' := by
  subst hxs
  obtain ⟨vs, rfl, hl⟩ := hx.agg_inv
  obtain ⟨v', hv', hr⟩ := sound_part hl hp w
  exact ⟨v', by simp [Instr.field, run_und hu, hf, asAgg, hv'], hr⟩

theorem sound_fieldAddr {t : TypeId} {i o n : Nat} {x' : Value} {f : Nat} {fs : Array Field} {fd : Field} (hx : VR e (.ptr i o) x') (hu : P.underlying t = some (.struct fs)) (hf : fs[f]? = some fd)
    (hs : sz P fd.type = some n) (hn : n ≠ 0) (w : World) : ∃ v', (Instr.fieldAt t x' f).run P w = .ok v' w ∧ VR e (.ptr i (o + fd.offset)) v' := by
  obtain ⟨o', hi, ho, rfl⟩ := hx.ptr_inv
  refine ⟨.pointer (some ⟨e.b i, o' + fd.offset, none⟩), ?_, .ptr _ _ _ hi (by omega)⟩
  simp [Instr.fieldAt, run_und hu, hf, Instr.sureAddr, fieldPlace, run_sz hs, hn, add_lit]

theorem sound_indexAddr {t : TypeId} {x ix v : AV} {x' ix' : Value} (hx : VR e x x') (hix : VR e ix ix') (ha : indexAddrA P t x ix = some v) (w : World) :
    ∃ v', (Instr.indexAt t x' ix').run P w = .ok v' w ∧ VR e v v' := by
  simp only [indexAddrA, Option.bind_eq_bind, Option.bind_eq_some_iff] at ha
  obtain ⟨d, hd, ha⟩ := ha
  split at ha
  · rename_i n el i off kk k
    simp only [Option.bind_eq_some_iff] at ha
    obtain ⟨es, hes, ha⟩ := ha
    split at ha
    · rename_i hk
      simp only [Bool.and_eq_true, decide_eq_true_eq] at hk
      cases ha
      obtain ⟨o, hi, ho, rfl⟩ := hx.ptr_inv
      obtain rfl := hix.int_inv
      refine ⟨.pointer (some ⟨e.b i, o + k.toNat * es, none⟩), ?_, .ptr _ _ _ hi (by omega)⟩
      simp [Instr.indexAt, asIntOf, run_und hd, Instr.sureAddr, hk.1, hk.2, run_sz hes, add_lit]
    · cases ha
  · rename_i el i off len cap ex es kk k
    simp only [Option.bind_eq_some_iff] at ha
    obtain ⟨es', hes, ha⟩ := ha
    split at ha
    · rename_i hk
      simp only [Bool.and_eq_true, decide_eq_true_eq, beq_iff_eq] at hk
      obtain ⟨⟨rfl, hk1⟩, hk2⟩ := hk
      cases ha
      obtain rfl := hix.int_inv
      rcases hx.slice_inv with ⟨o, c, hi, ho, hl, hc, hxx, hn, rfl⟩ | ⟨rfl, _, _, _⟩
      · refine ⟨.pointer (some ⟨e.b i, o + k.toNat * es', none⟩), ?_, .ptr _ _ _ hi (by omega)⟩
        simp [Instr.indexAt, asIntOf, run_und hd, hk1, hk2, run_sz hes, add_lit]
      · omega
    · cases ha
  · cases ha

theorem sound_index {t : TypeId} {x ix v : AV} {x' ix' : Value} (hx : VR e x x') (hix : VR e ix ix') (ha : indexA P t x ix = some v) (w : World) :
    ∃ v', (Instr.index t x' ix').run P w = .ok v' w ∧ VR e v v' := by
  simp only [indexA, Option.bind_eq_bind, Option.bind_eq_some_iff] at ha
  obtain ⟨d, hd, ha⟩ := ha
  split at ha
  · rename_i n el cs kk k
    simp only [Option.bind_eq_some_iff] at ha
    obtain ⟨es, hes, ha⟩ := ha
    split at ha
    · rename_i hk
      simp only [Bool.and_eq_true, decide_eq_true_eq] at hk
      obtain ⟨vs, rfl, hl⟩ := hx.agg_inv
      obtain rfl := hix.int_inv
      obtain ⟨v', hv', hr⟩ := sound_part hl ha w
      exact ⟨v', by simp [Instr.index, asIntOf, run_und hd, hk.1, hk.2, run_sz hes, hv'], hr⟩
    · cases ha
  · rename_i s kk k
    split at ha
    · rename_i hk
      obtain ⟨b, rfl, rfl⟩ := hx.str_inv
      obtain rfl := hix.int_inv
      simp only [Option.map_eq_some_iff] at ha
      obtain ⟨c, hc, rfl⟩ := ha
      simp only [bytes, List.getElem?_map, Option.map_eq_some_iff] at hc
      obtain ⟨u, hu, rfl⟩ := hc
      refine ⟨.int .u8 u.toNat, ?_, .int _ _⟩
      have hb : b[k.toNat]? = some u := by
        have h1 : k.toNat < b.data.toList.length := (List.getElem?_eq_some_iff.1 hu).1
        have h2 : k.toNat < b.size := by rw [Array.length_toList] at h1; exact h1
        rw [getElem?_pos b k.toNat h2]
        congr 1
        have h3 := (List.getElem?_eq_some_iff.1 hu).2
        rw [← h3]
        rfl
      simp [Instr.index, asIntOf, run_und hd, hk, hb]
    · cases ha
  · cases ha

theorem bound_some {lo hi : Nat} {v : AV} {v' : Value} {n : Nat} (hv : VR e v v') (h : bound lo hi v = some n) : ∃ k : IntKind, ∃ z : Int, v' = .int k z ∧ lo ≤ n ∧ n ≤ hi ∧ z = n := by
  unfold bound at h
  split at h
  · rename_i k z
    split at h
    · rename_i hk
      simp only [Bool.and_eq_true, decide_eq_true_eq] at hk
      cases h
      exact ⟨k, z, hv.int_inv, by omega, by omega, by omega⟩
    · cases h
  · cases h

def VRO (e : Em) : Option AV → Option Value → Prop
  | none, none => True
  | some a, some b => VR e a b
  | _, _ => False

theorem run_bound {z : Int} {k : IntKind} {n y : Nat} {code : BoundsCode} (h : z = n) (hy : n ≤ y) (w : World) : (Instr.sliceBound (.int k z) y code).run P w = .ok n w := by
  subst h
  simp [Instr.sliceBound, asIntOf, hy]

theorem sound_bnd {isS : Bool} {len cap cap' : Nat} {low high mx : Option AV} {low' high' mx' : Option Value} (h1 : VRO e low low') (h2 : VRO e high high') (h3 : VRO e mx mx')
    {l h m : Nat} (hb : sliceBnd len cap low high mx = some (l, h, m)) (hl : len ≤ cap') (hc : cap ≤ cap') (w : World) :
    (Instr.sliceBounds isS len cap' low' high' mx').run P w = .ok (l, h, if mx.isSome then m else cap') w ∧ l ≤ h ∧ (mx = none → m = cap) ∧ (mx.isSome = true → h ≤ m ∧ m ≤ cap) ∧ (high = none → h = len) ∧ (mx = none → high.isSome = true → h ≤ cap) := by
  simp only [sliceBnd, Option.bind_eq_bind, Option.bind_eq_some_iff, Option.pure_def, Option.some.injEq, Prod.mk.injEq] at hb
  obtain ⟨m0, hm, h0, hh, l0, hl0, rfl, rfl, rfl⟩ := hb
  cases mx with
  | some mv =>
    cases mx' with
    | none => exact h3.elim
    | some mv' =>
      obtain ⟨km, zm, rfl, _, hm2, hm3⟩ := bound_some h3 hm
      cases high with
      | none => cases hh
      | some hv =>
        cases high' with
        | none => exact h2.elim
        | some hv' =>
          obtain ⟨kh, zh, rfl, _, hh2, hh3⟩ := bound_some h2 hh
          cases low with
          | none =>
            cases low' with
            | some _ => exact h1.elim
            | none =>
              cases hl0
              refine ⟨?_, by omega, by simp, fun _ => ⟨hh2, hm2⟩, by simp, by simp⟩
              simp [Instr.sliceBounds, run_bound hm3 (show m0 ≤ cap' by omega), run_bound hh3 hh2]
          | some lv =>
            cases low' with
            | none => exact h1.elim
            | some lv' =>
              obtain ⟨kl, zl, rfl, _, hl2, hl3⟩ := bound_some h1 hl0
              refine ⟨?_, hl2, by simp, fun _ => ⟨hh2, hm2⟩, by simp, by simp⟩
              simp [Instr.sliceBounds, run_bound hm3 (show m0 ≤ cap' by omega), run_bound hh3 hh2, run_bound hl3 hl2]
  | none =>
    cases mx' with
    | some _ => exact h3.elim
    | none =>
      cases hm
      cases high with
      | none =>
        cases high' with
        | some _ => exact h2.elim
        | none =>
          cases hh
          cases low with
          | none =>
            cases low' with
            | some _ => exact h1.elim
            | none => cases hl0; exact ⟨by simp [Instr.sliceBounds], by omega, by simp, by simp, by simp, by simp⟩
          | some lv =>
            cases low' with
            | none => exact h1.elim
            | some lv' =>
              obtain ⟨kl, zl, rfl, _, hl2, hl3⟩ := bound_some h1 hl0
              exact ⟨by simp [Instr.sliceBounds, run_bound hl3 hl2], hl2, by simp, by simp, by simp, by simp⟩
      | some hv =>
        cases high' with
        | none => exact h2.elim
        | some hv' =>
          obtain ⟨kh, zh, rfl, _, hh2, hh3⟩ := bound_some h2 hh
          cases low with
          | none =>
            cases low' with
            | some _ => exact h1.elim
            | none => cases hl0; exact ⟨by simp [Instr.sliceBounds, run_bound hh3 (show h0 ≤ cap' by omega)], by omega, by simp, by simp, by simp, fun _ _ => hh2⟩
          | some lv =>
            cases low' with
            | none => exact h1.elim
            | some lv' =>
              obtain ⟨kl, zl, rfl, _, hl2, hl3⟩ := bound_some h1 hl0
              exact ⟨by simp [Instr.sliceBounds, run_bound hh3 (show h0 ≤ cap' by omega), run_bound hl3 hl2], hl2, by simp, by simp, by simp, fun _ _ => hh2⟩

theorem VRL.bytes_extract (b : ByteArray) (l h : Nat) : ((bytes b).drop l).take (h - l) = bytes (b.extract l h) := by
  unfold bytes
  rw [ByteArray.data_extract, Array.toList_extract, List.extract, List.map_take, List.map_drop]

theorem sound_slice (hRH : RH G F W e H w) {t : TypeId} {x v : AV} {x' : Value} {low high mx : Option AV} {low' high' mx' : Option Value} (hx : VR e x x') (h1 : VRO e low low') (h2 : VRO e high high') (h3 : VRO e mx mx')
    (ha : sliceA P t x low high mx H = some v) : ∃ v', (Instr.sliceAt t x' low' high' mx').run P w = .ok v' w ∧ VR e v v' := by
  simp only [sliceA, Option.bind_eq_bind, Option.bind_eq_some_iff] at ha
  obtain ⟨d, hd, ha⟩ := ha
  split at ha
  · rename_i s
    obtain ⟨b, rfl, rfl⟩ := hx.str_inv
    cases mx with
    | some _ => simp at ha
    | none =>
      cases mx' with
      | some _ => exact h3.elim
      | none =>
        simp only [Option.isSome_none, Bool.false_eq_true, if_false, Option.bind_eq_some_iff, Prod.exists] at ha
        obtain ⟨l, h, m, hb, hv⟩ := ha
        simp only [Option.some.injEq] at hv
        subst hv
        have hsz : (bytes b).length = b.size := by unfold bytes; rw [List.length_map, Array.length_toList]; rfl
        rw [hsz] at hb
        obtain ⟨hr, hlh, hm, _, hh1, hh2⟩ := sound_bnd (P := P) (isS := false) h1 h2 h3 hb (Nat.le_refl _) (Nat.le_refl _) w
        simp only [Option.isSome_none, Bool.false_eq_true, if_false] at hr
        refine ⟨.string (b.extract l h), by simp [Instr.sliceAt, Instr.slice, run_und hd, hr], ?_⟩
        rw [VRL.bytes_extract]; exact .str _
  · rename_i el
    simp only [Option.bind_eq_some_iff, Prod.exists] at ha
    obtain ⟨l, h, m, hb, hv⟩ := ha
    split at hv
    · rename_i hs
      simp only [Option.some.injEq] at hv
      subst hv
      obtain ⟨es, hes⟩ := Option.isSome_iff_exists.1 hs
      cases hx
      obtain ⟨hr, hlh, hm, hm2, hh1, hh2⟩ := sound_bnd (P := P) (isS := true) h1 h2 h3 hb (Nat.le_refl _) (Nat.le_refl _) w
      refine ⟨.slice none 0 0, ?_, .slice0⟩
      have hh : h = 0 := by
        cases mx with
        | some _ => have := hm2 rfl; omega
        | none =>
          cases high with
          | none => exact hh1 rfl
          | some _ => have := hh2 rfl rfl; omega
      have hl0 : l = 0 := by omega
      subst hh; subst hl0
      have hm0 : (if mx.isSome = true then m else 0) = 0 := by
        split
        · rename_i hms; have := hm2 hms; omega
        · rfl
      rw [hm0] at hr
      simp [Instr.sliceAt, Instr.slice, run_und hd, hr, run_sz hes]
    · cases hv
  · rename_i el i off len cap ex es
    simp only [Option.bind_eq_some_iff, Prod.exists] at ha
    obtain ⟨l, h, m, hb, es', hes, hv⟩ := ha
    split at hv
    · rename_i hs
      simp only [beq_iff_eq] at hs
      subst hs
      simp only [Option.some.injEq] at hv
      subst hv
      rcases hx.slice_inv with ⟨o, c, hi, ho, hl, hc, hxx, hn, rfl⟩ | ⟨rfl, rfl, a, rfl⟩
      · obtain ⟨hr, hlh, hm, hm2, hh1, hh2⟩ := sound_bnd (P := P) (isS := true) h1 h2 h3 hb hl hc w
        have hmm : h ≤ (if mx.isSome = true then m else c) ∧ m ≤ (if mx.isSome = true then m else c) ∧ (if mx.isSome = true then m else c) ≤ c ∧ ((ex || mx.isSome) = true → (if mx.isSome = true then m else c) = m) := by
          cases mx with
          | some _ => have := hm2 rfl; simp; omega
          | none =>
            have hmc := hm rfl
            simp only [Option.isSome_none, Bool.false_eq_true, if_false, Bool.or_false]
            refine ⟨?_, by omega, by omega, fun hx2 => by rw [hxx hx2, hmc]⟩
            cases high with
            | none => have := hh1 rfl; omega
            | some _ => have := hh2 rfl rfl; omega
        generalize (if mx.isSome = true then m else c) = m' at hr hmm
        obtain ⟨hq1, hq2, hq3, hq4⟩ := hmm
        by_cases hml : m' = l
        · have e1 : h - l = 0 := by omega
          have e2 : m - l = 0 := by omega
          refine ⟨.slice (some ⟨e.b i, o, none⟩) 0 0, ?_, by rw [e1, e2]; exact .sliceE ..⟩
          have e3 : h = l := by omega
          simp [Instr.sliceAt, Instr.slice, run_und hd, hr, run_sz hes, hml, e3]
        · refine ⟨.slice (some ⟨e.b i, o + l * es', none⟩) (h - l) (m' - l), ?_, .slice _ _ _ _ _ _ _ _ hi (by omega) (by omega) (by omega) (fun hx2 => by rw [hq4 hx2]) ?_⟩
          · simp [Instr.sliceAt, Instr.slice, run_und hd, hr, run_sz hes, hml, add_lit]
          · have : o + l * es' + (m' - l) * es' = o + m' * es' := by
              rw [Nat.add_assoc, ← Nat.add_mul]; congr 2; omega
            rw [this]
            have : m' * es' ≤ c * es' := Nat.mul_le_mul_right _ hq3
            omega
      · obtain ⟨hr, hlh, hm, hm2, hh1, hh2⟩ := sound_bnd (P := P) (isS := true) (cap' := 0) h1 h2 h3 hb (Nat.le_refl _) (Nat.le_refl _) w
        have hh : h = 0 := by
          cases mx with
          | some _ => have := hm2 rfl; omega
          | none =>
            cases high with
            | none => exact hh1 rfl
            | some _ => have := hh2 rfl rfl; omega
        have hl0 : l = 0 := by omega
        have hm0 : (if mx.isSome = true then m else 0) = 0 := by
          split
          · rename_i hms; have := hm2 hms; omega
          · rfl
        have hm1 : m = 0 := by
          cases mx with
          | some _ => have := hm2 rfl; omega
          | none => exact hm rfl
        subst hh; subst hl0; subst hm1
        rw [hm0] at hr
        exact ⟨.slice (some a) 0 0, by simp [Instr.sliceAt, Instr.slice, run_und hd, hr, run_sz hes], .sliceE ..⟩
    · cases hv
  · rename_i n el i off
    simp only [Option.bind_eq_some_iff, Prod.exists] at ha
    obtain ⟨l, h, m, hb, es, hes, hv⟩ := ha
    split at hv
    · rename_i hs
      simp only [Bool.and_eq_true, Nat.blt_eq] at hs
      obtain ⟨hs1, hs2⟩ := hs
      obtain ⟨u, hu⟩ := Option.isSome_iff_exists.1 hs2
      simp only [Option.some.injEq] at hv
      subst hv
      obtain ⟨o, hi, ho, rfl⟩ := hx.ptr_inv
      obtain ⟨hr, hlh, hm, hm2, hh1, hh2⟩ := sound_bnd (P := P) (isS := false) h1 h2 h3 hb (Nat.le_refl _) (Nat.le_refl _) w
      have hlt := hRH.load_lt (o := o + n * es - 1) hu (by omega)
      have hmn : (if mx.isSome = true then m else n) = m ∧ m ≤ n ∧ h ≤ m := by
        cases mx with
        | some _ => have := hm2 rfl; simp; omega
        | none =>
          have := hm rfl
          subst this
          refine ⟨by simp, Nat.le_refl _, ?_⟩
          cases high with
          | none => have := hh1 rfl; omega
          | some _ => exact hh2 rfl rfl
      rw [hmn.1] at hr
      obtain ⟨_, hq1, hq2⟩ := hmn
      by_cases hml : m = l
      · have e1 : h - l = 0 := by omega
        have e2 : m - l = 0 := by omega
        refine ⟨.slice (some ⟨e.b i, o, none⟩) 0 0, ?_, by rw [e1, e2]; exact .sliceE ..⟩
        have e3 : h = l := by omega
        simp [Instr.sliceAt, run_und hd, Instr.sureAddr, hr, run_sz hes, hml, e3]
      · refine ⟨.slice (some ⟨e.b i, o + l * es, none⟩) (h - l) (m - l), ?_, .slice _ _ _ _ _ _ _ _ hi (by omega) (by omega) (by omega) (fun _ => rfl) ?_⟩
        · simp [Instr.sliceAt, run_und hd, Instr.sureAddr, hr, run_sz hes, hml, add_lit]
        · have : o + l * es + (m - l) * es = o + m * es := by
            rw [Nat.add_assoc, ← Nat.add_mul]; congr 2; omega
          rw [this]
          have : m * es ≤ n * es := Nat.mul_le_mul_right _ hq1
          omega
    · cases hv
  · cases ha
end
end Go.Proofs.YtehhgkgeldinkaaGreatDoor.Am
namespace Go.Proofs.YtehhgkgeldinkaaGreatDoor.Am
set_option linter.unusedVariables false
set_option linter.unusedSimpArgs false
section
variable {P : Program} {G : Nat} {F : Nat → Prop} {W : World} {e : Em} {H : Hp} {w : World}

theorem bytes_len (b : ByteArray) : (bytes b).length = b.size := by unfold bytes; rw [List.length_map, Array.length_toList]; rfl
theorem map_toNat_inj : ∀ {x y : List UInt8}, x.map (·.toNat) = y.map (·.toNat) → x = y
  | [], [], _ => rfl
  | [], _ :: _, h => by simp at h
  | _ :: _, [], h => by simp at h
  | a :: x, b :: y, h => by
    simp only [List.map_cons, List.cons.injEq] at h
    rw [UInt8.toNat_inj.1 h.1, map_toNat_inj h.2]
theorem bytes_beq (a b : ByteArray) : (bytes a == bytes b) = (a.data.toList == b.data.toList) := by
  unfold bytes
  by_cases h : a.data.toList = b.data.toList
  · rw [h]; simp
  · have : ¬ (a.data.toList.map (·.toNat) = b.data.toList.map (·.toNat)) := fun h2 => h (map_toNat_inj h2)
    rw [beq_eq_false_iff_ne.2 h, beq_eq_false_iff_ne.2 this]
theorem ltL_eq : ∀ (x y : List UInt8), ltL (x.map (·.toNat)) (y.map (·.toNat)) = Op.bytesLess x y
  | x, [] => by cases x <;> simp [ltL, Op.bytesLess]
  | [], b :: y => by simp [ltL, Op.bytesLess]
  | a :: x, b :: y => by
    simp only [List.map_cons, ltL, Op.bytesLess, ltL_eq x y]
    congr 1
    · by_cases h : a.toNat < b.toNat
      · have : a < b := by rw [UInt8.lt_iff_toNat_lt]; exact h
        simp [this, h]
      · have : ¬ a < b := by rw [UInt8.lt_iff_toNat_lt]; exact h
        have h2 : Nat.blt a.toNat b.toNat = false := by
          cases hb : Nat.blt a.toNat b.toNat
          · rfl
          · rw [Nat.blt_eq] at hb; exact absurd hb h
        simp [this, h2]
    · congr 1
      by_cases h : a = b
      · subst h; simp
      · have h2 : ¬ a.toNat = b.toNat := fun q => h (UInt8.toNat_inj.1 q)
        rw [beq_f h2, beq_eq_false_iff_ne.2 h]
theorem bytes_append (a b : ByteArray) : bytes (a ++ b) = bytes a ++ bytes b := by
  unfold bytes; rw [ByteArray.data_append, Array.toList_append, List.map_append]

theorem nat_bits (k : IntKind) (a : Int) (h : 0 ≤ a) : (BitVec.ofInt k.bits a).toNat = a.toNat % 2 ^ k.bits := by
  rw [BitVec.toNat_ofInt]
  obtain ⟨n, rfl⟩ := Int.eq_ofNat_of_zero_le h
  rw [Int.toNat_natCast]
  have : ((n : Int) % ((2 ^ k.bits : Nat) : Int)) = ((n % 2 ^ k.bits : Nat) : Int) := by norm_cast
  rw [this, Int.toNat_natCast]


theorem run_forIn {α : Type} (g : α → Option Bool) (body : α → Option Bool × Unit → Sem (ForInStep (Option Bool × Unit))) (w : World)
    (hb : ∀ a b, g a = some b → (body a (none, ())).run P w = .ok (if b then .yield (none, ()) else .done (some false, ())) w) :
    ∀ (l : List α) (b : Bool), allO g l = some b → (forIn l (none, ()) body).run P w = .ok (if b then (none, ()) else (some false, ())) w := by
  intro l
  induction l with
  | nil => intro b h; simp only [allO, Option.some.injEq] at h; subst h; simp
  | cons a r ih =>
    intro b h
    unfold allO at h
    split at h
    · rename_i hg
      rw [List.forIn_cons, Sem.run_bind, hb a true hg]
      exact ih b h
    · rename_i hg
      cases h
      rw [List.forIn_cons, Sem.run_bind, hb a false hg]
      simp
    · cases h

theorem str_beq (p q : ByteArray) : (p == q) = (bytes p == bytes q) := by
  rw [bytes_beq]
  have h0 : (p == q) = (p.data == q.data) := by cases p; cases q; rfl
  rw [h0]
  by_cases e : p.data = q.data
  · rw [e]; simp
  · have : ¬ p.data.toList = q.data.toList := fun h2 => e (Array.toList_inj.1 h2)
    rw [beq_eq_false_iff_ne.2 e, beq_eq_false_iff_ne.2 this]

theorem clean_cells (h : RH G F W e H w) {i : Nat} (hc : clean H i = true) : ∃ C el, i < e.N ∧ w.heap[e.b i]? = some (.cells C el (0, 0)) ∧ (∃ o, H.h.get i = some o ∧ wr o = true) := by
  unfold clean at hc
  split at hc
  · rename_i c lo hi el hg
    obtain ⟨hN, ob, hob, hor, _⟩ := h.obj i _ hg
    cases hor with
    | cells _ _ _ _ _ C fz hn hcc h0 h1 hd =>
      have := h0 rfl
      subst this
      exact ⟨C, el, hN, hob, _, hg, rfl⟩
  · cases hc

set_option maxHeartbeats 2000000 in
theorem sound_eq (h : RH G F W e H w) : ∀ (d D : Nat), d ≤ D → ∀ (t : TypeId) (x y : AV) (x' y' : Value) (b : Bool), VR e x x' → VR e y y' → eqA P d t x y H = some b →
    (Op.equalIn D t x' y').run P w = .ok b w := by
  intro d
  induction d with
  | zero => intro D _ t x y x' y' b _ _ hb; cases hb
  | succ d ih =>
    intro D hD t x y x' y' b hx hy hb
    obtain ⟨D, rfl⟩ : ∃ k, D = k + 1 := ⟨D - 1, by omega⟩
    unfold eqA at hb
    split at hb
    · cases hb
    rename_i u hu
    split at hb
    · cases hx.bool_inv; cases hy.bool_inv; cases hb; simp [Op.equalIn, run_und hu]
    · cases hx.int_inv; cases hy.int_inv
      split at hb
      · rename_i hk; cases hb; simp [Op.equalIn, run_und hu, hk]
      · cases hb
    · obtain ⟨p, rfl, rfl⟩ := hx.str_inv
      obtain ⟨q, rfl, rfl⟩ := hy.str_inv
      cases hb
      have := str_beq p q
      simp [Op.equalIn, run_und hu, this]
    · cases hx; cases hy; cases hb; simp [Op.equalIn, run_und hu]
    · cases hx; cases hy; cases hb; simp [Op.equalIn, run_und hu]
    · cases hx; cases hy; cases hb; simp [Op.equalIn, run_und hu]
    · rename_i el i a j c
      split at hb
      · rename_i n hn
        obtain ⟨o, hi, ho, rfl⟩ := hx.ptr_inv
        obtain ⟨o2, hj, ho2, rfl⟩ := hy.ptr_inv
        cases hij : Nat.beq i j with
        | true =>
          have : i = j := Nat.eq_of_beq_eq_true hij
          subst this
          rw [hij] at hb
          cases hb
          have : (Nat.beq a c) = (o == o2) := by
            by_cases q : a = c
            · subst q
              have : o = o2 := by omega
              subst this; simp
            · rw [beq_f q, beq_eq_false_iff_ne.2 (by omega)]
          simp [Op.equalIn, run_und hu, run_sz hn, sameAddr, this]
          by_cases q : o = o2
          · subst q; simp
          · rw [beq_eq_false_iff_ne.2 q, beq_eq_false_iff_ne.2 (by simp; exact q)]
        | false =>
          rw [hij] at hb
          cases hcl : (clean H i && clean H j) with
          | false => rw [hcl] at hb; cases hb
          | true =>
            rw [hcl] at hb
            cases hb
            rw [Bool.and_eq_true] at hcl
            obtain ⟨C1, l1, _, g1, o1, q1, u1⟩ := clean_cells h hcl.1
            obtain ⟨C2, l2, _, g2, o3, q2, u2⟩ := clean_cells h hcl.2
            have hne : ¬ e.b i = e.b j := fun q => by
              have := h.inj i j _ _ q1 q2 (.inl u1) q
              subst this
              simp at hij
            have f1 : ∀ k, w.frozen? ⟨e.b i, k, none⟩ = false := fun k => by simp [World.frozen?, g1]
            have f2 : ∀ k, w.frozen? ⟨e.b j, k, none⟩ = false := fun k => by simp [World.frozen?, g2]
            have s1 : w.shape? (e.b i) = some (l1, C1.size) := by simp [World.shape?, g1]
            have s2 : w.shape? (e.b j) = some (l2, C2.size) := by simp [World.shape?, g2]
            simp [Op.equalIn, run_und hu, run_sz hn, sameAddr, hne, f1, f2, noView, viewAt, s1, s2, mayBeOne, stringish]
      · cases hb
    · cases hx; cases hy; cases hb; simp [Op.equalIn, run_und hu]
    · cases hx; cases hy; cases hb; simp [Op.equalIn, run_und hu]
    · cases hx; cases hy; cases hb; simp [Op.equalIn, run_und hu]
    · rename_i t1 v1 t2 v2
      cases hx with
      | iface _ _ v1' hv1 =>
      cases hy with
      | iface _ _ v2' hv2 =>
      split at hb
      · rename_i ht
        subst ht
        split at hb
        · rename_i inf hinf
          cases hcm : inf.comparable with
          | false => rw [hcm] at hb; cases hb
          | true =>
            rw [hcm] at hb
            have := ih D (by omega) t1 v1 v2 v1' v2' b hv1 hv2 hb
            simp [Op.equalIn, run_und hu, run_inf hinf, hcm, this]
        · cases hb
      · rename_i ht
        cases hb
        simp [Op.equalIn, run_und hu, ht]
    · rename_i fs xs ys
      cases hst : P.stoodInHeld t with
      | true => rw [hst] at hb; cases hb
      | false =>
        rw [hst] at hb
        simp only [cond_false] at hb
        obtain ⟨vx, rfl, hlx⟩ := hx.agg_inv
        obtain ⟨vy, rfl, hly⟩ := hy.agg_inv
        have key := run_forIn (P := P) (g := fun f : Field => if f.name = "_" then some true else
          match partA P f.type xs f.offset, partA P f.type ys f.offset with
          | some a, some b => eqA P d f.type a b H
          | _, _ => none) (body := fun f __s =>
            if f.name = "_" then Pure.pure (ForInStep.yield (none, ()))
            else do
              let __do_lift ← part f.type vx f.offset
              let __do_lift_1 ← part f.type vy f.offset
              let __do_lift ← Op.equalIn D f.type __do_lift __do_lift_1
              if __do_lift = false then Pure.pure (ForInStep.done (some false, ())) else Pure.pure (ForInStep.yield (none, ()))) w (by
            intro f b hg
            by_cases hn : f.name = "_"
            · rw [if_pos hn] at hg; cases hg; simp [hn]
            · rw [if_neg hn] at hg
              split at hg
              · rename_i a1 a2 h1 h2
                obtain ⟨u1, hu1, hr1⟩ := sound_part hlx h1 w
                obtain ⟨u2, hu2, hr2⟩ := sound_part hly h2 w
                have := ih D (by omega) f.type a1 a2 u1 u2 b hr1 hr2 hg
                cases b <;> simp [hn, hu1, hu2, this]
              · cases hg) fs.toList b hb
        simp only [Op.equalIn, Sem.run_bind, run_und hu, Result.andThen_ok, run_program, hst]
        simp only [Array.forIn_toList] at key
        simp [key]
        cases b <;> simp
    · rename_i n el xs ys
      split at hb
      · rename_i s hs
        obtain ⟨vx, rfl, hlx⟩ := hx.agg_inv
        obtain ⟨vy, rfl, hly⟩ := hy.agg_inv
        have key := run_forIn (P := P) (g := fun i : Nat =>
          match partA P el xs (i * s), partA P el ys (i * s) with
          | some a, some b => eqA P d el a b H
          | _, _ => none) (body := fun i __s => do
              let __do_lift ← part el vx (i * s)
              let __do_lift_1 ← part el vy (i * s)
              let __do_lift ← Op.equalIn D el __do_lift __do_lift_1
              if __do_lift = false then Pure.pure (ForInStep.done (some false, ())) else Pure.pure (ForInStep.yield (none, ()))) w (by
            intro f b hg
            split at hg
            · rename_i a1 a2 h1 h2
              obtain ⟨u1, hu1, hr1⟩ := sound_part hlx h1 w
              obtain ⟨u2, hu2, hr2⟩ := sound_part hly h2 w
              have := ih D (by omega) el a1 a2 u1 u2 b hr1 hr2 hg
              cases b <;> simp [hu1, hu2, this]
            · cases hg) (List.range' 0 n) b hb
        simp [Op.equalIn, run_und hu, run_sz hs]
        simp [key]
        cases b <;> simp
      · cases hb
    · cases hx; cases hy; cases hb; simp [Op.equalIn, run_und hu]
    · cases hx; cases hb
      rcases hy.slice_inv with ⟨o, c, hi, ho, hl, hc, hxx, hn, rfl⟩ | ⟨rfl, rfl, a, rfl⟩ <;> simp [Op.equalIn, run_und hu]
    · cases hy; cases hb
      rcases hx.slice_inv with ⟨o, c, hi, ho, hl, hc, hxx, hn, rfl⟩ | ⟨rfl, rfl, a, rfl⟩ <;> simp [Op.equalIn, run_und hu]
    · cases hx; cases hy; cases hb; simp [Op.equalIn, run_und hu]
    · cases hx; cases hy; cases hb; simp [Op.equalIn, run_und hu]
    · cases hx; cases hy; cases hb; simp [Op.equalIn, run_und hu]
    · cases hx; cases hy; cases hb; simp [Op.equalIn, run_und hu]
    · cases hx; cases hy; cases hb; simp [Op.equalIn, run_und hu]
    · cases hx; cases hy; cases hb; simp [Op.equalIn, run_und hu]
    · cases hb
end
end Go.Proofs.YtehhgkgeldinkaaGreatDoor.Am
namespace Go.Proofs.YtehhgkgeldinkaaGreatDoor.Am
set_option linter.unusedVariables false
set_option linter.unusedSimpArgs false
section
variable {P : Program} {G : Nat} {F : Nat → Prop} {W : World} {e : Em} {H : Hp} {w : World}

theorem bits_and (k : IntKind) (a b : Int) : ((BitVec.ofInt k.bits a) &&& (BitVec.ofInt k.bits b)).toNat = bts k a &&& bts k b := by
  rw [BitVec.toNat_and, BitVec.toNat_ofInt, BitVec.toNat_ofInt]; rfl
theorem bits_or (k : IntKind) (a b : Int) : ((BitVec.ofInt k.bits a) ||| (BitVec.ofInt k.bits b)).toNat = bts k a ||| bts k b := by
  rw [BitVec.toNat_or, BitVec.toNat_ofInt, BitVec.toNat_ofInt]; rfl
theorem bits_xor2 (k : IntKind) (a b : Int) : ((BitVec.ofInt k.bits a) ^^^ (BitVec.ofInt k.bits b)).toNat = bts k a ^^^ bts k b := by
  rw [BitVec.toNat_xor, BitVec.toNat_ofInt, BitVec.toNat_ofInt]; rfl
theorem bits_xor (k : IntKind) (a b : Int) (ha : 0 ≤ a) (hb : 0 ≤ b) : ((BitVec.ofInt k.bits a) ^^^ (BitVec.ofInt k.bits b)).toNat = (a.toNat % 2 ^ k.bits) ^^^ (b.toNat % 2 ^ k.bits) := by
  rw [BitVec.toNat_xor, nat_bits k a ha, nat_bits k b hb]

theorem run_strOp_eq (a b : ByteArray) : (a.toList == b.toList) = (bytes a == bytes b) := by
  rw [ByteArray.toList_eq, ByteArray.toList_eq, bytes_beq]
theorem run_strOp_lt (a b : ByteArray) : Op.bytesLess a.toList b.toList = ltL (bytes a) (bytes b) := by
  rw [ByteArray.toList_eq, ByteArray.toList_eq]; exact (ltL_eq _ _).symm

theorem eqA_nj {d : Nat} {t : TypeId} {x y : AV} {b : Bool} (hb : eqA P d t x y H = some b) : x ≠ .junk ∧ y ≠ .junk := by
  constructor
  · rintro rfl
    cases d with
    | zero => cases hb
    | succ d =>
      unfold eqA at hb
      split at hb
      · cases hb
      · split at hb <;> first | (simp at *; done) | (simp_all; done) | cases hb
  · rintro rfl
    cases d with
    | zero => cases hb
    | succ d =>
      unfold eqA at hb
      split at hb
      · cases hb
      · split at hb <;> first | (simp at *; done) | (simp_all; done) | cases hb

theorem VR.nofloat {x : AV} {x' : Value} (h : VR e x x') (hj : x ≠ .junk) : (∀ k a, x' ≠ .float k a) ∧ (∀ k a b, x' ≠ .complex k a b) := by
  cases h <;> first | (exact absurd rfl hj) | (constructor <;> (intros; simp))

theorem binOp_eql_of {t : TypeId} {x y : Value} (h1 : ∀ k a k' b, x = .int k a → y = .int k' b → False) (h2 : ∀ a b, x = .string a → y = .string b → False)
    (h3 : ∀ k a, x ≠ .float k a) (h4 : ∀ k a b, x ≠ .complex k a b) : binOp .eql t x y = (do Pure.pure (.bool (← Op.equal t x y))) := by
  cases x <;> cases y <;> first | rfl | (exact absurd rfl (h3 _ _)) | (exact absurd rfl (h4 _ _ _)) | (exact (h1 _ _ _ _ rfl rfl).elim) | (exact (h2 _ _ rfl rfl).elim)
theorem binOp_neq_of {t : TypeId} {x y : Value} (h1 : ∀ k a k' b, x = .int k a → y = .int k' b → False) (h2 : ∀ a b, x = .string a → y = .string b → False)
    (h3 : ∀ k a, x ≠ .float k a) (h4 : ∀ k a b, x ≠ .complex k a b) : binOp .neq t x y = (do Pure.pure (.bool (!(← Op.equal t x y)))) := by
  cases x <;> cases y <;> first | rfl | (exact absurd rfl (h3 _ _)) | (exact absurd rfl (h4 _ _ _)) | (exact (h1 _ _ _ _ rfl rfl).elim) | (exact (h2 _ _ rfl rfl).elim)
theorem VR.int_of {x : AV} {k : IntKind} {n : Int} (h : VR e x (.int k n)) (hj : x ≠ .junk) : x = .int k n := by cases h <;> first | rfl | exact absurd rfl hj
theorem VR.str_of {x : AV} {s : ByteArray} (h : VR e x (.string s)) (hj : x ≠ .junk) : x = .str (bytes s) := by cases h <;> first | rfl | exact absurd rfl hj

set_option maxHeartbeats 1000000 in
theorem sound_bin (h : RH G F W e H w) {op : BinOp} {t : TypeId} {x y v : AV} {x' y' : Value} (hx : VR e x x') (hy : VR e y y') (hb : binA P op t x y H = some v) :
    ∃ v', (binOp op t x' y').run P w = .ok v' w ∧ VR e v v' := by
  unfold binA at hb
  split at hb
  · cases hx.int_inv; cases hy.int_inv
    split at hb
    · cases hb
    · rename_i hn; cases hb
      exact ⟨_, by simp [binOp, Op.shift, hn], .int _ _⟩
  · cases hx.int_inv; cases hy.int_inv
    split at hb
    · cases hb
    · rename_i hn; cases hb
      exact ⟨_, by simp [binOp, Op.shift, hn], .int _ _⟩
  · cases hx.int_inv; cases hy.int_inv
    split at hb
    · rename_i k a k' b n1 n2 hk
      subst hk
      split at hb
      · cases hb; exact ⟨_, by simp [binOp, Op.intArith], .int _ _⟩
      · cases hb; exact ⟨_, by simp [binOp, Op.intArith], .int _ _⟩
      · cases hb; exact ⟨_, by simp [binOp, Op.intArith], .int _ _⟩
      · split at hb
        · cases hb
        · rename_i hz; cases hb; exact ⟨_, by simp [binOp, Op.intDiv, hz], .int _ _⟩
      · split at hb
        · cases hb
        · rename_i hz; cases hb; exact ⟨_, by simp [binOp, Op.intDiv, hz], .int _ _⟩
      · cases hb
        rw [← bits_and k a b]
        exact ⟨_, by simp only [binOp, Op.intBits, ne_eq, not_true_eq_false, if_false]; rfl, .int _ _⟩
      · cases hb
        rw [← bits_or k a b]
        exact ⟨_, by simp only [binOp, Op.intBits, ne_eq, not_true_eq_false, if_false]; rfl, .int _ _⟩
      · cases hb
        rw [← bits_xor2 k a b]
        exact ⟨_, by simp only [binOp, Op.intBits, ne_eq, not_true_eq_false, if_false]; rfl, .int _ _⟩
      · cases hb
      · cases hb; exact ⟨_, by simp [binOp, Op.intCmp], .bool _⟩
      · cases hb; exact ⟨_, by simp [binOp, Op.intCmp], .bool _⟩
      · cases hb; exact ⟨_, by simp [binOp, Op.intCmp], .bool _⟩
      · cases hb; exact ⟨_, by simp [binOp, Op.intCmp], .bool _⟩
      · cases hb; exact ⟨_, by simp [binOp, Op.intCmp], .bool _⟩
      · cases hb; exact ⟨_, by simp [binOp, Op.intCmp], .bool _⟩
      · cases hb
    · cases hb
  · obtain ⟨p, rfl, rfl⟩ := hx.str_inv
    obtain ⟨q, rfl, rfl⟩ := hy.str_inv
    split at hb
    · cases hle : Nat.ble ((bytes p).length + (bytes q).length) 4294967296 with
      | false => rw [hle] at hb; cases hb
      | true =>
        rw [hle] at hb
        cases hb
        rw [Nat.ble_eq, bytes_len, bytes_len] at hle
        have : ¬ ((p.size + q.size : Nat) : Int) > 9223372036854775807 := by omega
        rw [← bytes_append]
        refine ⟨.string (p ++ q), ?_, .str _⟩
        simp only [binOp, Op.stringOp, IntKind.max_i64, if_neg this]; rfl
    · cases hb; exact ⟨_, by simp [binOp, Op.stringOp, run_strOp_eq], .bool _⟩
    · cases hb; exact ⟨_, by simp [binOp, Op.stringOp, run_strOp_eq], .bool _⟩
    · cases hb; exact ⟨_, by simp [binOp, Op.stringOp, run_strOp_lt], .bool _⟩
    · cases hb; exact ⟨_, by simp [binOp, Op.stringOp, run_strOp_lt, run_strOp_eq], .bool _⟩
    · cases hb; exact ⟨_, by simp [binOp, Op.stringOp, run_strOp_lt, run_strOp_eq], .bool _⟩
    · cases hb; exact ⟨_, by simp [binOp, Op.stringOp, run_strOp_lt], .bool _⟩
    · cases hb
  · rename_i n1 n2
    simp only [Option.map_eq_some_iff] at hb
    obtain ⟨b, hb, rfl⟩ := hb
    have := sound_eq h 50 Op.maxDepth (by decide) t x y x' y' b hx hy hb
    refine ⟨.bool b, ?_, .bool _⟩
    obtain ⟨j1, j2⟩ := eqA_nj hb
    obtain ⟨f1, f2⟩ := hx.nofloat j1
    rw [binOp_eql_of (fun k a k' b p q => n1 k a k' b (by rw [p] at hx; exact hx.int_of j1) (by rw [q] at hy; exact hy.int_of j2))
      (fun a b p q => n2 _ _ (by rw [p] at hx; exact hx.str_of j1) (by rw [q] at hy; exact hy.str_of j2)) f1 f2]
    simp only [Op.equal, Sem.run_bind, this]; rfl
  · rename_i n1 n2
    simp only [Option.map_eq_some_iff] at hb
    obtain ⟨b, hb, rfl⟩ := hb
    have := sound_eq h 50 Op.maxDepth (by decide) t x y x' y' b hx hy hb
    refine ⟨.bool !b, ?_, .bool _⟩
    obtain ⟨j1, j2⟩ := eqA_nj hb
    obtain ⟨f1, f2⟩ := hx.nofloat j1
    rw [binOp_neq_of (fun k a k' b p q => n1 k a k' b (by rw [p] at hx; exact hx.int_of j1) (by rw [q] at hy; exact hy.int_of j2))
      (fun a b p q => n2 _ _ (by rw [p] at hx; exact hx.str_of j1) (by rw [q] at hy; exact hy.str_of j2)) f1 f2]
    simp only [Op.equal, Sem.run_bind, this]; rfl
  · cases hb

theorem sound_guard {op : BinOp} {t : TypeId} {X Y : Operand} {x y v : AV} {x' y' : Value} (hx : VR e x x') (hy : VR e y y') (hg : guardA P op t X Y x y = true) (hb : binA P op t x y H = some v) :
    (eqGuard op t X Y x' y').run P w = .ok () w := by
  by_cases ho : op = .eql ∨ op = .neq
  · have hnj : x ≠ .junk ∧ y ≠ .junk := by
      constructor
      · rintro rfl
        rcases ho with rfl | rfl <;> (unfold binA at hb; simp only [Option.map_eq_some_iff] at hb; obtain ⟨b, hb, _⟩ := hb; exact (eqA_nj hb).1 rfl)
      · rintro rfl
        rcases ho with rfl | rfl <;> (unfold binA at hb; cases x <;> simp only [Option.map_eq_some_iff] at hb <;> (obtain ⟨b, hb, _⟩ := hb; exact (eqA_nj hb).2 rfl))
    cases hx <;> cases hy <;> first
      | (exact absurd rfl hnj.1) | (exact absurd rfl hnj.2)
      | (rcases ho with rfl | rfl <;> rfl)
      | skip
    · have hg' : isC X = true ∨ isC Y = true := by
        rcases ho with rfl | rfl <;> (simp only [guardA, Bool.or_eq_true] at hg; exact hg)
      rcases ho with rfl | rfl <;> (rcases hg' with hc | hc <;> (cases X <;> cases Y <;> first | (simp [isC] at hc; done) | rfl))
    · have hg' : P.eqGuardType P.depth t = false := by
        rcases ho with rfl | rfl <;> (simp only [guardA, Bool.not_eq_true'] at hg; exact hg)
      rcases ho with rfl | rfl <;> simp [eqGuard, hg']
  · have : (op matches .eql | .neq) = false := by
      cases op <;> first | rfl | (exact absurd (by simp) ho)
    cases op <;> first | rfl | (exact absurd (by simp) ho)
end
end Go.Proofs.YtehhgkgeldinkaaGreatDoor.Am
namespace Go.Proofs.YtehhgkgeldinkaaGreatDoor.Am
set_option linter.unusedVariables false
set_option linter.unusedSimpArgs false
section
variable {P : Program} {G : Nat} {F : Nat → Prop} {W : World} {e : Em} {H : Hp} {w : World}

theorem sound_un {op : UnOp} {x v : AV} {x' : Value} (hx : VR e x x') (hb : unA op x = some v) (w : World) : ∃ v', (Op.unary op x').run P w = .ok v' w ∧ VR e v v' := by
  unfold unA at hb
  split at hb
  · cases hx.int_inv; cases hb; exact ⟨_, by simp [Op.unary, Op.intArith], .int _ _⟩
  · cases hx.bool_inv; cases hb; exact ⟨_, by simp [Op.unary], .bool _⟩
  · rename_i k n
    cases hx.int_inv
    split at hb
    · cases hb
    · rename_i hs
      split at hb
      · rename_i hn
        cases hb
        have hm : 0 ≤ k.max := by cases k <;> simp [IntKind.max, IntKind.signed, IntKind.bits] at hs ⊢
        rw [← bits_xor k k.max n hm hn]
        refine ⟨_, ?_, .int _ _⟩
        simp only [Op.unary, Op.intBits, if_neg hs]; rfl
      · cases hb
  · cases hb

/-- writing a list into a row, cell by cell -/
theorem foldl_set : ∀ (v : List Value) (off j : Nat) (cs : Array Value), off + j + v.length ≤ cs.size →
    ((v.zipIdx j).foldl (fun cs (x : Value × Nat) => cs.setIfInBounds (off + x.2) x.1) cs).size = cs.size ∧
    ∀ m, ((v.zipIdx j).foldl (fun cs (x : Value × Nat) => cs.setIfInBounds (off + x.2) x.1) cs)[m]? = if off + j ≤ m ∧ m < off + j + v.length then v[m - (off + j)]? else cs[m]?
  | [], off, j, cs, h => by
    refine ⟨by simp, fun m => ?_⟩
    rw [if_neg (by rw [List.length_nil]; omega)]; simp
  | x :: v, off, j, cs, h => by
    simp only [List.length_cons] at h
    rw [List.zipIdx_cons, List.foldl_cons]
    obtain ⟨h1, h2⟩ := foldl_set v off (j + 1) (cs.setIfInBounds (off + j) x) (by simp; omega)
    refine ⟨by rw [h1]; simp, fun m => ?_⟩
    rw [h2]
    simp only [List.length_cons]
    by_cases hm : m = off + j
    · subst hm
      rw [if_neg (by omega), if_pos (by omega)]
      rw [Array.getElem?_setIfInBounds_self_of_lt (by omega)]
      simp
    · by_cases hr : off + (j + 1) ≤ m ∧ m < off + (j + 1) + v.length
      · rw [if_pos hr, if_pos (by omega)]
        have : m - (off + j) = (m - (off + (j + 1))) + 1 := by omega
        rw [this, List.getElem?_cons_succ]
      · rw [if_neg hr, if_neg (by omega), Array.getElem?_setIfInBounds_ne (by omega)]

theorem VRL.splice {a c : List AV} {x : Array Value} {y : List Value} {off : Nat} (ha : VRL e a x.toList) (hc : VRL e c y) (h : off + c.length ≤ a.length) :
    VRL e (a.take off ++ c ++ a.drop (off + c.length)) ((y.zipIdx).foldl (fun cs (x : Value × Nat) => cs.setIfInBounds (off + x.2) x.1) x).toList := by
  have hx : x.size = a.length := by have := ha.1; simpa using this
  obtain ⟨h1, h2⟩ := foldl_set y off 0 x (by rw [hc.1, hx]; omega)
  refine ⟨by simp [h1, hx]; omega, fun i v v' hv hv' => ?_⟩
  rw [Array.getElem?_toList, h2] at hv'
  simp only [Nat.add_zero] at hv'
  rw [hc.1] at hv'
  by_cases hi : i < off
  · rw [if_neg (by omega)] at hv'
    rw [List.append_assoc, List.getElem?_append_left (by simp; omega), List.getElem?_take, if_pos hi] at hv
    exact ha.2 i v v' hv (by rw [Array.getElem?_toList]; exact hv')
  · by_cases hi2 : i < off + c.length
    · rw [if_pos (by omega)] at hv'
      rw [List.getElem?_append_left (by simp; omega), List.getElem?_append_right (by simp; omega)] at hv
      have : i - (a.take off).length = i - off := by simp; omega
      rw [this] at hv
      exact hc.2 _ v v' hv hv'
    · rw [if_neg (by omega)] at hv'
      rw [List.getElem?_append_right (by simp; omega), List.getElem?_drop] at hv
      have : off + c.length + (i - (a.take off ++ c).length) = i := by simp; omega
      rw [this] at hv
      exact ha.2 i v v' hv (by rw [Array.getElem?_toList]; exact hv')

/-- parts with their numbers -/
def PRL (e : Em) (l : List (Nat × AV)) (l' : List (Nat × Value)) : Prop := l'.map (·.1) = l.map (·.1) ∧ VRL e (l.map (·.2)) (l'.map (·.2))

theorem sound_fill {pl pl' : Nat → Option (Nat × Nat)} (hpl : ∀ i x, pl i = some x → pl' i = some x) : ∀ (ps : List (Nat × AV)) (ps' : List (Nat × Value)) (cells out : List AV) (cells' : Array Value),
    PRL e ps ps' → VRL e cells cells'.toList → fillA pl cells ps = some out → ∃ out', Instr.fill pl' cells' ps' = some out' ∧ VRL e out out'.toList := by
  intro ps
  induction ps with
  | nil =>
    intro ps' cells out cells' hp hc hf
    cases hf
    obtain rfl : ps' = [] := by have := hp.1; simpa using this
    exact ⟨cells', rfl, hc⟩
  | cons p ps ih =>
    intro ps' cells out cells' hp hc hf
    obtain ⟨i, v⟩ := p
    cases ps' with
    | nil => have := hp.1; simp at this
    | cons q ps' =>
      obtain ⟨i', v'⟩ := q
      obtain ⟨h1, h2⟩ := hp
      simp only [List.map_cons, List.cons.injEq] at h1
      obtain ⟨rfl, h1⟩ := h1
      obtain ⟨u, us, hu, hv, hvs⟩ := VRL.cons_inv (by simpa using h2 : VRL e (v :: ps.map (·.2)) (v' :: ps'.map (·.2)))
      simp only [List.cons.injEq] at hu
      obtain ⟨rfl, rfl⟩ := hu
      unfold fillA at hf
      split at hf
      · cases hf
      · rename_i off size hpi
        split at hf
        · cases hf
        · rename_i cs hcs
          split at hf
          · rename_i hcond
            have hl := hv.cells hcs
            have hsz : v'.cells.size = size := by have := hl.1; simp at this; omega
            have hcsz : cells'.size = cells.length := by have := hc.1; simpa using this
            have hsp := hc.splice hl (off := off) (by omega)
            rw [hcond.1] at hsp
            obtain ⟨out', ho, hr⟩ := ih ps' _ out _ ⟨h1, hvs⟩ hsp hf
            refine ⟨out', ?_, hr⟩
            unfold Instr.fill
            rw [hpl _ _ hpi]
            have c1 : (decide (v'.cells.size ≠ size) || decide (off + v'.cells.size > cells'.size)) = false := by simp; omega
            simp only [c1, Bool.false_eq_true, if_false]
            rw [← ho]
            congr 1
            rw [← Array.foldl_toList, Array.toList_zipIdx]
          · cases hf

theorem PRL.map {ρ : Operand → AV} {σ : Operand → Value} (h : ∀ x, VR e (ρ x) (σ x)) (l : List (Nat × Operand)) : PRL e (l.map fun (i, x) => (i, ρ x)) (l.map fun (i, x) => (i, σ x)) := by
  refine ⟨by simp [Function.comp_def], ?_⟩
  have := VRL.map h (l.map (·.2))
  simpa [Function.comp_def] using this

theorem mapMO_mapM {α β : Type} {f : α → Option β} {g : α → Sem β} {w : World} (h : ∀ a b, f a = some b → (g a).run P w = .ok b w) : ∀ (l : List α) (r : List β), mapMO f l = some r → (l.mapM g).run P w = .ok r w
  | [], r, hr => by cases hr; simp
  | a :: l, r, hr => by
    unfold mapMO at hr
    split at hr
    · rename_i b hb
      split at hr
      · rename_i r' hr'
        cases hr
        simp [h a b hb, mapMO_mapM h l r' hr']
      · cases hr
    · cases hr

theorem sound_build_struct {t : TypeId} {fs : Array Field} {z out : List AV} {pl : List (Nat × Nat)} {parts : List (Nat × AV)} {parts' : Array (Nat × Value)} (hz : zc P t = some z) (hu : P.underlying t = some (.struct fs))
    (hpl : placesA P fs = some pl) (hp : PRL e parts parts'.toList) (hf : fillA (pl[·]?) z parts = some out) (w : World) : ∃ v', (Instr.build t parts').run P w = .ok v' w ∧ VR e (.agg out) v' := by
  obtain ⟨i, z0, hi, hz0, hl⟩ := zc_some (e := e) hz
  have hm : (fs.mapM (fun f => do Pure.pure (f.offset, ← sizeOf f.type)) : Sem (Array (Nat × Nat))).run P w = .ok pl.toArray w := by
    rw [← Array.toArray_toList (xs := fs), List.mapM_toArray]
    have := mapMO_mapM (P := P) (w := w) (g := fun f : Field => (do Pure.pure (f.offset, ← sizeOf f.type) : Sem (Nat × Nat))) (f := fun f : Field => (sz P f.type).map fun n => (f.offset, n)) (by
      intro a b hb
      simp only [Option.map_eq_some_iff] at hb
      obtain ⟨n, hn, rfl⟩ := hb
      simp [run_sz hn]) fs.toList pl hpl
    rw [Sem.run_map, this]; rfl
  obtain ⟨out', ho, hr⟩ := sound_fill (e := e) (pl' := (pl.toArray[·]?)) (fun i x hx => by simpa using hx) parts parts'.toList z out z0.cells hp hl hf
  refine ⟨.agg out', ?_, .agg _ _ hr.1 hr.2⟩
  simp only [Instr.build, Sem.run_bind, run_zero hi hz0, Result.andThen_ok, run_und hu, hm, ho]
  rfl

theorem sound_build_array {t el s n : Nat} {z out : List AV} {parts : List (Nat × AV)} {parts' : Array (Nat × Value)} (hz : zc P t = some z) (hu : P.underlying t = some (.array n el))
    (hs : sz P el = some s) (hp : PRL e parts parts'.toList) (hf : fillA (fun i => some (i * s, s)) z parts = some out) (w : World) : ∃ v', (Instr.build t parts').run P w = .ok v' w ∧ VR e (.agg out) v' := by
  obtain ⟨i, z0, hi, hz0, hl⟩ := zc_some (e := e) hz
  obtain ⟨out', ho, hr⟩ := sound_fill (e := e) (pl' := fun i => some (i * s, s)) (fun i x hx => hx) parts parts'.toList z out z0.cells hp hl hf
  refine ⟨.agg out', ?_, .agg _ _ hr.1 hr.2⟩
  simp only [Instr.build, Sem.run_bind, run_zero hi hz0, Result.andThen_ok, run_und hu, run_sz hs, ho]
  rfl

theorem flatten_rep_get {α : Type} (z : List α) : ∀ (n i : Nat), i < n * z.length → (List.replicate n z).flatten[i]? = z[i % z.length]?
  | 0, i, h => by simp at h
  | n + 1, i, h => by
    rw [List.replicate_succ, List.flatten_cons]
    by_cases hi : i < z.length
    · rw [List.getElem?_append_left hi, Nat.mod_eq_of_lt hi]
    · rw [List.getElem?_append_right (by omega), flatten_rep_get z n _ (by rw [Nat.succ_mul] at h; omega)]
      congr 1
      have : i = (i - z.length) + z.length := by omega
      rw [this, Nat.add_mod_right]
      congr 1
      omega

theorem rows_of (z : Array Value) (n : Nat) : ((Array.range (n * z.size)).map (z[· % z.size]!)).toList = (List.replicate n z.toList).flatten := by
  apply List.ext_getElem?
  intro i
  by_cases hi : i < n * z.size
  · rw [flatten_rep_get z.toList n i (by simpa using hi)]
    have hz : 0 < z.size := by
      rcases Nat.eq_zero_or_pos z.size with h | h
      · rw [h] at hi; simp at hi
      · exact h
    have hlt : i % z.size < z.size := Nat.mod_lt _ hz
    simp [Array.getElem?_toList, hi, hlt]
  · rw [List.getElem?_eq_none (by simp; omega), List.getElem?_eq_none (by simp; omega)]

theorem VRL.rep {z : List AV} {z' : List Value} (h : VRL e z z') : ∀ n, VRL e (rep n z) (List.replicate n z').flatten
  | 0 => by simpa [Am.rep] using VRL.nil e
  | n + 1 => by
    have := h.append (VRL.rep h n)
    simpa [Am.rep, List.replicate_succ] using this
end
end Go.Proofs.YtehhgkgeldinkaaGreatDoor.Am
namespace Go.Proofs.YtehhgkgeldinkaaGreatDoor.Am
set_option linter.unusedVariables false
set_option linter.unusedSimpArgs false
section
variable {P : Program} {G : Nat} {F : Nat → Prop} {W : World} {e : Em} {H : Hp} {w : World}

theorem toBytes_sound : ∀ {l : List AV} {bs : List Nat} {cs : List Value}, toBytes l = some bs → VRL e l cs → ∃ us : List UInt8, bs = us.map (·.toNat) ∧ cs = us.map (fun b => Value.int .u8 b.toNat)
  | [], bs, cs, h, hl => by
    cases h
    rw [hl.nil_inv]
    exact ⟨[], rfl, rfl⟩
  | a :: l, bs, cs, h, hl => by
    unfold toBytes at h
    split at h
    · rename_i h0; cases h0
    · rename_i n r h0
      cases h0
      obtain ⟨v', ws, rfl, hv, hl'⟩ := hl.cons_inv
      cases hv.int_inv
      split at h
      · rename_i hn
        simp only [Bool.and_eq_true, decide_eq_true_eq] at hn
        simp only [Option.bind_eq_bind, Option.pure_def, Option.bind_eq_some_iff, Option.some.injEq] at h
        obtain ⟨bs', h1, rfl⟩ := h
        obtain ⟨us, rfl, rfl⟩ := toBytes_sound h1 hl'
        have hu : (UInt8.ofNat n.toNat).toNat = n.toNat := by
          rw [UInt8.toNat_ofNat']; exact Nat.mod_eq_of_lt (by omega)
        refine ⟨UInt8.ofNat n.toNat :: us, by simp only [List.map_cons, hu], ?_⟩
        have : ((UInt8.ofNat n.toNat).toNat : Int) = n := by rw [hu]; omega
        simp only [List.map_cons, this]
      · cases h
    · cases h

theorem bytes_mk (us : List UInt8) : bytes ⟨us.toArray⟩ = us.map (·.toNat) := rfl

theorem fold_bytes : ∀ (us : List UInt8) (s : ByteArray), (us.map fun b => (b.toNat : Int)).foldl (fun r n => r.push (UInt8.ofNat n.toNat)) s = ⟨s.data ++ us.toArray⟩
  | [], s => by simp
  | u :: us, s => by
    simp only [List.map_cons, List.foldl_cons, fold_bytes us]
    congr 1
    simp [ByteArray.push]

theorem run_b2s {a : Addr} {us : List UInt8} {cap : Nat} (w : World) (h : ∀ j v, (us.map (fun b => Value.int .u8 b.toNat))[j]? = some v → w.cell? (a.add j) = some v) :
    (Conv.bytesToString (.slice (some a) us.length cap)).run P w = .ok (.string ⟨us.toArray⟩) w := by
  have h1 := run_loadCells_list (P := P) w a (us.map (fun b => Value.int .u8 b.toNat)) h
  rw [List.length_map] at h1
  have h2 := run_bytesToString (P := P) w a us.length cap (us.map fun b => (b.toNat : Int)) (by rw [h1]; simp [Function.comp_def])
  rw [h2, fold_bytes]
  simp [ByteArray.empty, ByteArray.emptyWithCapacity]
  rfl

theorem enc_small (n : Int) (h : 0 ≤ n ∧ n < 128) : bytes (Utf8.encode n) = [n.toNat] := by
  obtain ⟨k, rfl⟩ := Int.eq_ofNat_of_zero_le h.1
  have hk : k < 128 := by omega
  have : ∀ k : Fin 128, bytes (Utf8.encode ((k.val : Nat) : Int)) = [k.val] := by decide +kernel
  exact this ⟨k, hk⟩

/-- the marks of a fresh row of which a string's bytes were made -/
theorem stringish_new (w : World) (C : Array Value) (el : TypeId) (b : Nat) (hb : b = w.heap.size) :
    World.freeze { w with heap := w.heap.push (.cells C el (0, 0)) } { block := b, off := C.size } 1 = { w with heap := w.heap.push (.cells C el (C.size, C.size + 1)) } := by
  subst hb
  simp only [World.freeze, Nat.one_ne_zero, if_false]
  congr 1
  apply Array.ext_getElem?
  intro k
  rw [Array.getElem?_modify]
  by_cases hk : w.heap.size = k
  · subst hk; simp
  · rw [if_neg hk, Array.getElem?_push, Array.getElem?_push, if_neg (fun q => hk q.symm), if_neg (fun q => hk q.symm)]

/-- the row that a string's bytes get -/
def s2bCap (w : World) (el : TypeId) (s : ByteArray) : Nat := (Question.appendCap s.size 0 el).cut (w.tape w.drawn (.appendCap s.size 0 el))
def s2bRow (w : World) (el : TypeId) (s : ByteArray) : List Value := (s.data.toList.map fun b => Value.int .u8 b.toNat) ++ List.replicate (s2bCap w el s - s.size) (.int .u8 0)
theorem s2bCap_le (w : World) (el : TypeId) (s : ByteArray) : s.size ≤ s2bCap w el s := Nat.le_add_right _ _
theorem s2bRow_len (w : World) (el : TypeId) (s : ByteArray) : (s2bRow w el s).length = s2bCap w el s := by
  have := s2bCap_le w el s
  have h2 : s.data.size = s.size := rfl
  simp [s2bRow]
  omega
theorem run_s2b (P : Program) (w : World) (el : TypeId) (s : ByteArray) :
    (Conv.stringToBytes el s).run P w = .ok (.slice (some ⟨w.heap.size, 0, none⟩) s.size (s2bCap w el s)) { w with drawn := w.drawn + 1, heap := w.heap.push (.cells (s2bRow w el s).toArray el (s2bCap w el s, s2bCap w el s + 1)) } := by
  let w1 : World := { w with drawn := w.drawn + 1 }
  let cap := s2bCap w el s
  have hcap : s.size ≤ cap := s2bCap_le w el s
  let rest : List Value := List.replicate (cap - s.size) (.int .u8 0)
  have hlen : ((s.data.toList.map fun b => Value.int .u8 b.toNat) ++ rest).length = cap := s2bRow_len w el s
  have hC : (s.data.map fun b => Value.int .u8 b.toNat) ++ Array.replicate (cap - s.size) (.int .u8 0) = ((s.data.toList.map fun b => Value.int .u8 b.toNat) ++ rest).toArray := by
    apply Array.toList_inj.1
    simp [rest]
  have hforced : (Question.appendCap s.size 0 el).forced = false := rfl
  simp only [Conv.stringToBytes, Sem.run_bind, run_choose, hforced, Bool.false_eq_true, if_false, Result.andThen_ok, newRow, run_newObj, Sem.run_pure]
  have hC' : (s.data.map fun b => Value.int .u8 b.toNat) ++ Array.replicate ((Question.appendCap s.size 0 el).cut (w.tape w.drawn (.appendCap s.size 0 el)) - s.size) (.int .u8 0) = ((s.data.toList.map fun b => Value.int .u8 b.toNat) ++ rest).toArray := hC
  rw [hC']
  have hsz : ((s.data.toList.map fun b => Value.int .u8 b.toNat) ++ rest).toArray.size = cap := by simpa using hlen
  have hsh : (World.shape? { w1 with heap := w.heap.push (.cells ((s.data.toList.map fun b => Value.int .u8 b.toNat) ++ rest).toArray el (0, 0)) } w.heap.size) = some (el, cap) := by
    simp only [World.shape?, Array.getElem?_push_size, hsz]
  have hfr := stringish_new w1 ((s.data.toList.map fun b => Value.int .u8 b.toNat) ++ rest).toArray el w.heap.size rfl
  rw [hsz] at hfr
  have hsh' : (World.shape? { w with heap := w.heap.push (.cells ((s.data.toList.map fun b => Value.int .u8 b.toNat) ++ rest).toArray el (0, 0)), drawn := w.drawn + 1 } w.heap.size) = some (el, cap) := hsh
  simp only [markStringish, Sem.run_bind, run_shape, Result.andThen_ok, hsh', run_freeze]
  have hfr' : World.freeze { w with heap := w.heap.push (.cells ((s.data.toList.map fun b => Value.int .u8 b.toNat) ++ rest).toArray el (0, 0)), drawn := w.drawn + 1 } { block := w.heap.size, off := cap } 1 = _ := hfr
  rw [hfr']
  rfl

theorem s2b_vrl (e : Em) (s : ByteArray) : VRL e ((bytes s).map fun (b : Nat) => AV.int .u8 b) (s.data.toList.map fun b => Value.int .u8 b.toNat) := by
  refine ⟨by simp [bytes], fun i v v' hv hv' => ?_⟩
  simp only [bytes, List.map_map, List.getElem?_map, Option.map_eq_some_iff] at hv hv'
  obtain ⟨u, hu, rfl⟩ := hv
  obtain ⟨u', hu', rfl⟩ := hv'
  rw [hu] at hu'
  cases hu'
  exact .int _ _

theorem sound_s2b (h : RH G F W e H w) {s : ByteArray} {el i : Nat} {H' : Hp} (hn : newCells H ((bytes s).map fun (b : Nat) => AV.int .u8 b) el 1 = some (i, H')) :
    ∃ v' w' e', (Conv.stringToBytes el s).run P w = .ok v' w' ∧ e.le e' ∧ RH G F W e' H' w' ∧ VR e' (.slice i 0 (bytes s).length (bytes s).length false 1) v' := by
  have hcap := s2bCap_le w el s
  have h1 : RH G F W e H { w with drawn := w.drawn + 1 } := h.drawn _
  have hlen := s2bRow_len w el s
  obtain ⟨e', he, g1, g2, g3, g4, hr⟩ := h1.newRow (rest := List.replicate (s2bCap w el s - s.size) (.int .u8 0)) (fz := (s2bCap w el s, s2bCap w el s + 1)) hn (s2b_vrl e s) (by simp) (fun _ k hk => by
    have hk' : k < (s2bRow w el s).length := hk
    rw [hlen] at hk'; simp; omega)
  refine ⟨_, _, e', run_s2b P w el s, he, hr, ?_⟩
  have hb : w.heap.size = e'.b i := g2.symm
  rw [hb, bytes_len]
  have g4' : e'.n i = (s2bRow w el s).length := g4
  refine .slice i 0 s.size s.size false 1 0 _ g1 (by rw [g3]; simp) hcap hcap (by simp) ?_
  rw [g4', hlen]; omega

theorem liesAt_head {el : TypeId} {count : Nat} (hs : 0 < P.cellsOf el) (hc : P.cellsOf el ≤ count) : liesAt P P.depth el (count / P.cellsOf el) 0 el 1 = true := by
  have hd : P.depth = (2 * (P.types.size + Made.depth) + 1) + 1 := rfl
  have h1 : 1 ≤ count / P.cellsOf el := (Nat.le_div_iff_mul_le hs).2 (by omega)
  have h0 : ¬ P.cellsOf el = 0 := by omega
  rw [hd]
  simp only [liesAt, Bool.or_eq_true]
  left
  rw [hd]
  simp only [rowAt, if_neg h0, Bool.or_eq_true, Bool.and_eq_true]
  left
  simp [h1, sameLayout]

theorem cells_of (h : RH G F W e H w) {i : Nat} {c : Tr AV} {lo hi el fl : Nat} (hg : H.h.get i = some (.cells c lo hi el fl)) :
    i < e.N ∧ ∃ C fz, w.heap[e.b i]? = some (.cells C el fz) ∧ C.size = e.n i ∧ (lo = 0 → e.d i = 0) ∧ (fl = 0 → fz = (0, 0)) := by
  obtain ⟨hN, ob, hob, hor, _⟩ := h.obj i _ hg
  cases hor with
  | cells _ _ _ _ _ C fz hn hcc h0 h1 hd => exact ⟨hN, C, fz, hob, hn, hd, h0⟩

set_option maxHeartbeats 1000000 in
theorem sound_conv (h : RH G F W e H w) {src dst : TypeId} {x v : AV} {x' : Value} {H' : Hp} (hx : VR e x x') (hc : convA P src dst x H = some (v, H')) :
    ∃ v' w' e', (convert src dst x').run P w = .ok v' w' ∧ e.le e' ∧ RH G F W e' H' w' ∧ VR e' v v' := by
  unfold convA at hc
  split at hc
  · rename_i s d hs hd
    split at hc
    · cases hx.int_inv; cases hc
      exact ⟨_, w, e, by simp [convert, run_und hs, run_und hd, Conv.intToInt], e.le_refl, h, .int _ _⟩
    · rename_i n
      cases hx.int_inv
      split at hc
      · rename_i hn
        cases hc
        rw [← enc_small n hn]
        exact ⟨_, w, e, by simp [convert, run_und hs, run_und hd, Conv.intToString], e.le_refl, h, .str _⟩
      · cases hc
    · obtain ⟨b, rfl, rfl⟩ := hx.str_inv
      cases hc
      exact ⟨_, w, e, by simp [convert, run_und hs, run_und hd], e.le_refl, h, .str _⟩
    · rename_i el s
      obtain ⟨b, rfl, rfl⟩ := hx.str_inv
      split at hc
      · rename_i hel
        split at hc
        · rename_i i H2 hn
          cases hc
          obtain ⟨v', w', e', h1, h2, h3, h4⟩ := sound_s2b (P := P) h hn
          exact ⟨v', w', e', by simp [convert, run_und hs, run_und hd, run_und hel, h1], h2, h3, h4⟩
        · cases hc
      · cases hc
    · rename_i el0 el i off len cap ex es
      cases hb : (Nat.beq src dst && Nat.blt 0 len) with
      | false => rw [hb] at hc; cases hc
      | true =>
        rw [hb] at hc
        simp only [cond_true] at hc
        simp only [Bool.and_eq_true, Nat.blt_eq] at hb
        have hsd : src = dst := Nat.eq_of_beq_eq_true hb.1
        split at hc
        · rename_i c lo hi el2 hel hg
          cases hc
          obtain ⟨hN, C, fz, hob, hn, hdd, hfz⟩ := cells_of h hg
          have hf := hfz rfl
          subst hf
          rcases hx.slice_inv with ⟨o, k, hi2, ho, hl, hc2, hxx, hn2, rfl⟩ | ⟨rfl, _, _, _⟩
          · refine ⟨.slice (some ⟨e.b i, o, none⟩) len k, w.freeze { block := e.b i, off := C.size } 1, e, ?_, e.le_refl, ?_, hx⟩
            · have hsh : w.shape? (e.b i) = some (el2, C.size) := by simp [World.shape?, hob]
              simp [convert, run_und hs, run_und hd, run_und hel, hsd, markStringish, hsh]
            · refine h.put hg rfl (ob' := .cells C el2 (C.size, C.size + 1)) ?_ ?_ ?_ ?_ rfl rfl rfl
              · simp [World.freeze]
              · simp only [World.freeze, Nat.one_ne_zero, if_false]
                rw [get_modify_same _ _ _ hob]; simp
              · intro k hk
                simp only [World.freeze, Nat.one_ne_zero, if_false]
                rw [get_modify_ne _ _ _ _ (fun q => hk q.symm)]
              · obtain ⟨_, ob, hob2, hor, _⟩ := h.obj i _ hg
                rw [hob] at hob2
                cases hob2
                cases hor with
                | cells _ _ _ _ _ C fz hn hcc h0 h1 hd => exact .cells _ _ _ _ _ _ _ hn hcc (by simp) (fun _ k hk => by simp; omega) hd
          · omega
        · cases hc
    · rename_i el
      cases hx
      split at hc
      · rename_i hel
        cases hc
        refine ⟨.string .empty, w, e, by simp [convert, run_und hs, run_und hd, run_und hel, Conv.bytesToString], e.le_refl, h, ?_⟩
        exact .str .empty
      · cases hc
    · rename_i el i off len a1 a2 a3
      split at hc
      · rename_i hel
        cases hz : Nat.beq len 0 with
        | true =>
          rw [hz] at hc
          cases hc
          have : len = 0 := Nat.eq_of_beq_eq_true hz
          subst this
          rcases hx.slice_inv with ⟨o, k, hi2, ho, hl, hc2, hxx, hn2, rfl⟩ | ⟨_, _, a, rfl⟩
          · have := run_b2s (P := P) (a := ⟨e.b i, o, none⟩) (us := []) (cap := k) w (by simp)
            exact ⟨_, w, e, by simp only [convert, Sem.run_bind, run_und hs, run_und hd, run_und hel, Result.andThen_ok]; exact this, e.le_refl, h, .str ⟨#[]⟩⟩
          · have := run_b2s (P := P) (a := a) (us := []) (cap := 0) w (by simp)
            exact ⟨_, w, e, by simp only [convert, Sem.run_bind, run_und hs, run_und hd, run_und hel, Result.andThen_ok]; exact this, e.le_refl, h, .str ⟨#[]⟩⟩
        | false =>
          rw [hz] at hc
          simp only [cond_false, Option.bind_eq_some_iff, Option.map_eq_some_iff, Prod.mk.injEq] at hc
          obtain ⟨cs, hcs, bs, hbs, rfl, rfl⟩ := hc
          rcases hx.slice_inv with ⟨o, k, hi2, ho, hl, hc2, hxx, hn2, rfl⟩ | ⟨rfl, _, a, rfl⟩
          · obtain ⟨vs, h1, h2, h3⟩ := h.loads hcs ho
            obtain ⟨us, rfl, rfl⟩ := toBytes_sound hbs h1
            rw [List.length_map] at h2
            have := run_b2s (P := P) (a := ⟨e.b i, o, none⟩) (us := us) (cap := k) w (fun j v hj => by rw [add_lit]; exact h3 j v hj)
            rw [h2] at this
            refine ⟨_, w, e, by simp only [convert, Sem.run_bind, run_und hs, run_und hd, run_und hel, Result.andThen_ok]; exact this, e.le_refl, h, ?_⟩
            rw [← bytes_mk]; exact .str _
          · simp at hz
      · cases hc
    · rename_i t i o
      cases hb : ((cellAt H i o).isSome && posSz P t) with
      | false => rw [hb] at hc; cases hc
      | true =>
        rw [hb] at hc
        cases hc
        rw [Bool.and_eq_true] at hb
        obtain ⟨u, hu⟩ := Option.isSome_iff_exists.1 hb.1
        obtain ⟨n, hn⟩ : ∃ n, sz P t = some (n + 1) := by
          have := hb.2
          unfold posSz at this
          split at this
          · rename_i n hn; exact ⟨n, hn⟩
          · cases this
        obtain ⟨o', hi, ho, rfl⟩ := hx.ptr_inv
        have hlt := h.load_lt hu ho
        obtain ⟨c, lo, hi', el, fl, hg, _, _, _⟩ := cellAt_some hu
        obtain ⟨hN, C, fz, hob, hn2, _, _⟩ := cells_of h hg
        have hsh : w.shape? (e.b i) = some (el, C.size) := by simp [World.shape?, hob]
        have hge : ¬ C.size ≤ o' := by omega
        refine ⟨_, w, e, ?_, e.le_refl, h, hx⟩
        simp [convert, run_und hs, run_und hd, Conv.unsafePointer, Conv.seenAt, viewAt, cellsIn, hsh, run_sz hn, hge]
    · rename_i u i o
      split at hc
      · rename_i c lo hi el fl hg
        cases hb : (Nat.beq el u && Nat.beq lo 0 && Nat.beq o 0 && Nat.blt 0 (P.cellsOf u) && (cellAt H i (P.cellsOf u - 1)).isSome) with
        | false => rw [hb] at hc; cases hc
        | true =>
          rw [hb] at hc
          cases hc
          simp only [Bool.and_eq_true, Nat.blt_eq] at hb
          obtain ⟨⟨⟨⟨b1, b2⟩, b3⟩, b4⟩, b5⟩ := hb
          have e1 : el = u := Nat.eq_of_beq_eq_true b1
          have e2 : lo = 0 := Nat.eq_of_beq_eq_true b2
          have e3 : o = 0 := Nat.eq_of_beq_eq_true b3
          subst e1; subst e2; subst e3
          obtain ⟨q, hq⟩ := Option.isSome_iff_exists.1 b5
          obtain ⟨hN, C, fz, hob, hn2, hdd, _⟩ := cells_of h hg
          obtain ⟨o', hi, ho, rfl⟩ := hx.ptr_inv
          have hd0 := hdd rfl
          have ho0 : o' = 0 := by omega
          subst ho0
          have hlt := h.load_lt (o := P.cellsOf el - 1) hq (by omega)
          have hsh : w.shape? (e.b i) = some (el, C.size) := by simp [World.shape?, hob]
          have hl := liesAt_head (P := P) (el := el) (count := C.size) b4 (by omega)
          have hszu : sz P el = some (P.cellsOf el) := by
            unfold sz
            unfold Program.cellsOf at b4 ⊢
            cases hi : P.info? el with
            | none => simp [hi] at b4
            | some inf => simp
          refine ⟨_, w, e, ?_, e.le_refl, h, hx⟩
          simp [convert, run_und hs, run_und hd, Conv.unsafePointer, Conv.seenAt, viewAt, hsh, run_sz hszu, variablesAt, hl]
      · cases hc
    · cases hc
  · cases hc
end
end Go.Proofs.YtehhgkgeldinkaaGreatDoor.Am
