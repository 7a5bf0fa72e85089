/- Plain law of definitions: a definition that is read is shown, no longer than its text, and is read again as the same. No conditions. -/
import Derived.Test.YthljbjokonglhaaGreatDoorDfD6
namespace Go.Proofs.YthljbjokonglhaaGreatDoor.DfK
open Go Am Am.K DfEnv DfM LibP DfG
set_option linter.unusedVariables false
set_option linter.unusedSimpArgs false
set_option maxRecDepth 10000
/-! numbers -/
def numB (n : Nat) : Bool := Nat.ble (dec n).length 4 && (dec n).all (fun b => Nat.ble 48 b && Nat.ble b 57) && (match Lib.atoiAll ((dec n).map UInt8.ofNat) with | .ok v => v == (n : Int) | _ => false)
theorem numB_all : ∀ n : Fin 1001, numB n.val = true := by decide +kernel
theorem dec_num {n : Int} (h0 : 0 ≤ n) (h1 : n ≤ 1000) : numM (dec n) = some n.toNat ∧ (dec n).length ≤ 4 ∧ ∀ b ∈ dec n, 48 ≤ b ∧ b ≤ 57 := by
  obtain ⟨m, rfl⟩ : ∃ m : Nat, n = m := ⟨n.toNat, by omega⟩
  have h := numB_all ⟨m, by omega⟩
  unfold numB at h
  simp only [Bool.and_eq_true, Nat.ble_eq, List.all_eq_true] at h
  obtain ⟨⟨l, d⟩, a⟩ := h
  refine ⟨?_, l, fun b hb => d b hb⟩
  unfold numM
  rw [if_pos l]
  have e : u8of (dec (m : Int)) = (dec (m : Int)).map UInt8.ofNat := rfl
  rw [e]
  revert a
  cases Lib.atoiAll ((dec (m : Int)).map UInt8.ofNat) with
  | ok v =>
    intro a
    obtain rfl : v = (m : Int) := by simpa using a
    simp
  | _ => intro a; cases a
theorem num_dec {s : Str} {n : Nat} (h : numM s = some n) : dec (n : Int) = s := by
  unfold numM at h
  split at h
  · split at h
    · split at h
      · rename_i v _ hv
        cases h
        rw [show ((v.toNat : Nat) : Int) = v by omega]
        exact hv.1
      · cases h
    · cases h
  · cases h
/-! names -/
theorem dropW_nil {p : Nat → Bool} : ∀ {l : Str}, l.dropWhile p = [] → ∀ b ∈ l, p b = true
  | [], _, b, hb => by cases hb
  | a :: l, h, b, hb => by
    rw [List.dropWhile_cons] at h
    split at h
    · rename_i ha
      rcases List.mem_cons.1 hb with rfl | hb
      · exact ha
      · exact dropW_nil h b hb
    · cases h
theorem trim_in {s c : Str} (h : trimN s c = []) : ∀ b ∈ s, b ∈ c := by
  rw [trimN_eq] at h
  replace h := dropW_nil h
  intro b hb
  have hb' : b ∈ s.reverse := List.mem_reverse.2 hb
  rw [← List.takeWhile_append_dropWhile (p := (c.contains ·)) (l := s.reverse), List.mem_append] at hb'
  rcases hb' with q | q
  · have := List.all_eq_true.1 (List.all_takeWhile (p := (c.contains ·)) (l := s.reverse)) b q
    simpa using this
  · have := h b (List.mem_reverse.2 q)
    simpa using this
theorem okN_in {s : Str} (h : okN s = true) : s ≠ [] ∧ s.length ≤ 16 ∧ ∀ b ∈ s, b ∈ alN := by
  unfold okN at h
  simp only [Bool.and_eq_true, Bool.not_eq_true', beq_eq_false_iff_ne, decide_eq_true_eq, beq_iff_eq] at h
  exact ⟨h.1, by omega, trim_in h.2.2⟩
theorem alN_ne : ∀ b ∈ alN, b ≠ 32 ∧ b ≠ 44 ∧ b ≠ 59 ∧ b ≠ 61 ∧ b < 256 := by decide
theorem dig_al : ∀ b : Nat, 48 ≤ b → b ≤ 57 → b ∈ alN := by
  intro b h1 h2
  have : ∀ k : Fin 10, 48 + k.val ∈ alN := by decide
  have := this ⟨b - 48, by omega⟩
  simpa [show 48 + (b - 48) = b by omega] using this
/-! what is shown -/
def nmAt (ts : List Tk) (a : Int) : Str := (names ts).getD a.toNat []
def sfx (ts : List Tk) : Bool → List Int → Str
  | _, [] => []
  | f, a :: r => ((if f then [32, 97, 102, 116, 101, 114, 61] else [44]) ++ nmAt ts a) ++ sfx ts false r
def toldM (key : Str) (n p : Int) : Str := if n = p then [] else key ++ dec n
def showT (ts : List Tk) (t : Tk) : Str :=
  ((t.name ++ sfx ts true t.after) ++ ((toldM [32, 114, 101, 116, 114, 121, 61] t.retry 0 ++ toldM [32, 119, 97, 105, 116, 61] t.wait 10) ++ toldM [32, 98, 97, 115, 101, 61] t.base 1)) ++ (if t.on = [] then [] else [32, 111, 110, 61] ++ t.on)
noncomputable def showM (ts : List Tk) : Str := if goodM ts = 0 then joi 59 (ts.map (showT ts)) else []
def wrd (k v : Str) : Str := k ++ 61 :: v
def opW (c : Prop) [Decidable c] (k v : Str) : List Str := if c then [] else [wrd k v]
def showW (ts : List Tk) (t : Tk) : List Str := t.name :: (opW (t.after = []) kAfter (joi 44 (t.after.map (nmAt ts))) ++ (opW (t.retry = 0) kRetry (dec t.retry) ++ (opW (t.wait = 10) kWait (dec t.wait) ++ (opW (t.base = 1) kBase (dec t.base) ++ opW (t.on = []) kOn t.on))))
theorem joi_cons (c : Nat) : ∀ (l : List Str) (a : Str), joi c (a :: l) = a ++ l.flatMap (fun s => c :: s)
  | [], a => by simp [joi]
  | b :: l, a => by
    show a ++ c :: joi c (b :: l) = _
    rw [joi_cons c l b]; simp
theorem joi_len (c : Nat) : ∀ (l : List Str), l ≠ [] → (joi c l).length + 1 = sumL l + l.length
  | [], h => absurd rfl h
  | [a], _ => by simp [joi, sumL]
  | a :: b :: l, _ => by
    have := joi_len c (b :: l) (by simp)
    show (a ++ c :: joi c (b :: l)).length + 1 = _
    simp [sumL] at this ⊢
    omega
theorem joi_mem {c b : Nat} : ∀ {l : List Str}, b ∈ joi c l → b = c ∨ ∃ s ∈ l, b ∈ s
  | [], h => by cases h
  | [a], h => .inr ⟨a, .head _, h⟩
  | a :: d :: l, h => by
    have h : b ∈ a ++ c :: joi c (d :: l) := h
    rw [List.mem_append, List.mem_cons] at h
    rcases h with h | h | h
    · exact .inr ⟨a, .head _, h⟩
    · exact .inl h
    · exact (joi_mem h).imp id fun ⟨s, hs, hb⟩ => ⟨s, .tail _ hs, hb⟩
theorem sfx_f (ts : List Tk) : ∀ l, sfx ts false l = (l.map (nmAt ts)).flatMap (fun s => 44 :: s)
  | [] => rfl
  | a :: r => by simp [sfx, sfx_f ts r]
theorem sfx_t (ts : List Tk) (a : Int) (r : List Int) : sfx ts true (a :: r) = 32 :: (kAfter ++ 61 :: joi 44 ((a :: r).map (nmAt ts))) := by
  rw [List.map_cons, joi_cons, ← sfx_f]
  simp [sfx]
theorem showT_eq (ts : List Tk) (t : Tk) : showT ts t = joi 32 (showW ts t) := by
  have h1 : sfx ts true t.after = (opW (t.after = []) kAfter (joi 44 (t.after.map (nmAt ts)))).flatMap (fun s => 32 :: s) := by
    unfold opW wrd
    cases h : t.after with
    | nil => rfl
    | cons a r => rw [sfx_t]; simp
  have h2 : ∀ (k v : Str) (n p : Int), v = dec n → toldM (32 :: (k ++ [61])) n p = (opW (n = p) k v).flatMap (fun s => 32 :: s) := by
    intro k v n p hv
    subst hv
    unfold toldM opW wrd
    split <;> simp
  have h3 : (if t.on = [] then [] else [32, 111, 110, 61] ++ t.on) = (opW (t.on = []) kOn t.on).flatMap (fun s => 32 :: s) := by
    unfold opW wrd
    split <;> simp
  have a := h2 kRetry _ t.retry 0 rfl
  have b := h2 kWait _ t.wait 10 rfl
  have c := h2 kBase _ t.base 1 rfl
  unfold showT showW
  rw [joi_cons, List.flatMap_append, List.flatMap_append, List.flatMap_append, List.flatMap_append, ← h1, ← h3, ← a, ← b, ← c]
  simp only [List.append_assoc, List.cons_append, List.nil_append]
/-! a word is read -/
theorem cut_app {c : Nat} {a : Str} (r : Str) (h : c ∉ a) : cut c (a ++ c :: r) = (a, r, true) := by
  unfold cut
  rw [idxB_app r 0 h, Nat.zero_add]
  simp only
  rw [List.take_left', List.drop_append]
  · simp
  · rfl
theorem keys_at : ∀ j i : Fin 5, i.val ≤ j.val → ∃ k, keysM[j.val]? = some k ∧ 61 ∉ k ∧ (keysM.drop i.val).findIdx? (fun a => k == a) = some (j.val - i.val) := by
  intro j i h
  have : ∀ j i : Fin 5, i.val ≤ j.val → 61 ∉ keysM[j.val]! ∧ (keysM.drop i.val).findIdx? (fun a => keysM[j.val]! == a) = some (j.val - i.val) := by decide
  refine ⟨keysM[j.val]!, ?_, this j i h⟩
  have h5 : ∀ j : Fin 5, keysM[j.val]? = some keysM[j.val]! := by decide
  exact h5 j
theorem tk_step {nms r : List Str} {t : Tk} {i j : Nat} {k v : Str} (hk : keysM[j]? = some k) (hi : i ≤ j) : tkM nms (wrd k v :: r) t (keysM.drop i) = match setM t k v nms with | none => none | some t' => tkM nms r t' (keysM.drop (j + 1)) := by
  have hj : j < 5 := (List.getElem?_eq_some_iff.1 hk).1
  obtain ⟨k', h1, h2, h3⟩ := keys_at ⟨j, hj⟩ ⟨i, by omega⟩ hi
  rw [hk] at h1
  cases h1
  have hc := cut_app v h2
  rw [tkM]
  unfold wrd
  rw [hc]
  simp only
  simp only at h3
  rw [h3]
  simp only
  rw [if_neg (by simp), List.drop_drop]
  rw [show i + (j - i + 1) = j + 1 by omega]
  cases setM t k v nms <;> rfl
theorem tk_opt {nms r : List Str} {t t' : Tk} {i j : Nat} {k v : Str} {c : Prop} [Decidable c] (hk : keysM[j]? = some k) (hi : i ≤ j) (h1 : c → t' = t) (h2 : ¬ c → setM t k v nms = some t') :
    ∃ i', i' ≤ j + 1 ∧ tkM nms (opW c k v ++ r) t (keysM.drop i) = tkM nms r t' (keysM.drop i') := by
  by_cases hc : c
  · refine ⟨i, by omega, ?_⟩
    rw [h1 hc]; unfold opW; rw [if_pos hc]; rfl
  · refine ⟨j + 1, Nat.le_refl _, ?_⟩
    unfold opW; rw [if_neg hc]
    show tkM nms (wrd k v :: r) t _ = _
    rw [tk_step hk hi, h2 hc]
theorem find_nodup : ∀ {l : List Str} {i : Nat} {s : Str}, l.Nodup → l[i]? = some s → l.findIdx? (fun a => s == a) = some i
  | [], i, s, _, h => by simp at h
  | a :: l, 0, s, hn, h => by
    simp only [List.getElem?_cons_zero, Option.some.injEq] at h
    subst h
    simp [List.findIdx?_cons]
  | a :: l, i + 1, s, hn, h => by
    simp only [List.getElem?_cons_succ] at h
    rw [List.nodup_cons] at hn
    have hne : (s == a) = false := by
      rw [beq_eq_false_iff_ne]; intro e; subst e
      exact hn.1 (List.mem_of_getElem? h)
    rw [List.findIdx?_cons, hne, find_nodup hn.2 h]; rfl
theorem nmAt_get {ts : List Tk} {a : Int} (h0 : 0 ≤ a) (h1 : a ≤ (ts.length : Int) - 1) : (names ts)[a.toNat]? = some (nmAt ts a) ∧ nmAt ts a ∈ names ts := by
  have hl : a.toNat < (names ts).length := by unfold names; rw [List.length_map]; omega
  have : (names ts)[a.toNat]? = some (nmAt ts a) := by
    unfold nmAt
    rw [List.getD_eq_getElem?_getD, List.getElem?_eq_getElem hl]; rfl
  exact ⟨this, List.mem_of_getElem? this⟩
theorem places_nm {ts : List Tk} (hn : (names ts).Nodup) : ∀ {l : List Int}, (∀ a ∈ l, 0 ≤ a ∧ a ≤ (ts.length : Int) - 1) → placesM (names ts) (l.map (nmAt ts)) = some l
  | [], _ => rfl
  | a :: l, h => by
    obtain ⟨a0, a1⟩ := h a (.head _)
    show placesM (names ts) (nmAt ts a :: l.map (nmAt ts)) = _
    rw [placesM, find_nodup hn (nmAt_get a0 a1).1]
    simp only
    rw [places_nm hn fun b hb => h b (.tail _ hb)]
    show some ((a.toNat : Int) :: l) = _
    rw [show ((a.toNat : Nat) : Int) = a by omega]
/-- what is asked of a definition that is shown -/
structure Fit (ts : List Tk) : Prop where
  nd : (names ts).Nodup
  nm : ∀ s ∈ names ts, s ≠ [] ∧ s.length ≤ 16 ∧ ∀ b ∈ s, b ∈ alN
  aft : ∀ t ∈ ts, (∀ a ∈ t.after, 0 ≤ a ∧ a ≤ (ts.length : Int) - 1) ∧ t.after.length ≤ 16
  num : ∀ t ∈ ts, 0 ≤ t.retry ∧ t.retry ≤ 8 ∧ 1 ≤ t.wait ∧ t.wait ≤ 1000 ∧ 1 ≤ t.base ∧ t.base ≤ 1000
  on : ∀ t ∈ ts, t.on = [] ∨ (t.on.length ≤ 16 ∧ ∀ b ∈ t.on, b ∈ alN)
theorem Fit.at44 {ts : List Tk} (h : Fit ts) {s : Str} (hs : s ∈ names ts) : 44 ∉ s := fun q => (alN_ne 44 ((h.nm s hs).2.2 44 q)).2.1 rfl
theorem taskM_show {ts : List Tk} (hF : Fit ts) {t : Tk} (ht : t ∈ ts) : taskM (names ts) (showW ts t) = some t := by
  obtain ⟨n1, n2, n3, n4, n5, n6⟩ := hF.num t ht
  obtain ⟨a1, a2⟩ := hF.aft t ht
  have hm : ∀ s ∈ t.after.map (nmAt ts), s ∈ names ts := fun s hs => by
    obtain ⟨a, ha, rfl⟩ := List.mem_map.1 hs
    exact (nmAt_get (a1 a ha).1 (a1 a ha).2).2
  unfold taskM showW
  show tkM (names ts) _ ⟨t.name, [], 0, 10, 1, []⟩ (keysM.drop 0) = _
  obtain ⟨i1, l1, e1⟩ := tk_opt (nms := names ts) (r := opW (t.retry = 0) kRetry (dec t.retry) ++ (opW (t.wait = 10) kWait (dec t.wait) ++ (opW (t.base = 1) kBase (dec t.base) ++ opW (t.on = []) kOn t.on))) (t := ⟨t.name, [], 0, 10, 1, []⟩) (t' := ⟨t.name, t.after, 0, 10, 1, []⟩) (i := 0) (j := 0) (k := kAfter) (v := joi 44 (t.after.map (nmAt ts))) (c := t.after = []) rfl (Nat.le_refl _) (fun h => by rw [h]) fun h => by
    unfold setM
    rw [if_pos rfl, spl_joi (by simpa using h) fun s hs => hF.at44 (hm s hs), places_nm hF.nd a1]; rfl
  obtain ⟨i2, l2, e2⟩ := tk_opt (nms := names ts) (r := opW (t.wait = 10) kWait (dec t.wait) ++ (opW (t.base = 1) kBase (dec t.base) ++ opW (t.on = []) kOn t.on)) (t := ⟨t.name, t.after, 0, 10, 1, []⟩) (t' := ⟨t.name, t.after, t.retry, 10, 1, []⟩) (i := i1) (j := 1) (k := kRetry) (v := dec t.retry) (c := t.retry = 0) rfl l1 (fun h => by rw [h]) fun h => by
    unfold setM
    rw [if_neg (by decide), if_pos rfl, (dec_num n1 (by omega)).1]
    have e : ((t.retry.toNat : Nat) : Int) = t.retry := by omega
    simp only [Option.map_some, e]
  obtain ⟨i3, l3, e3⟩ := tk_opt (nms := names ts) (r := opW (t.base = 1) kBase (dec t.base) ++ opW (t.on = []) kOn t.on) (t := ⟨t.name, t.after, t.retry, 10, 1, []⟩) (t' := ⟨t.name, t.after, t.retry, t.wait, 1, []⟩) (i := i2) (j := 2) (k := kWait) (v := dec t.wait) (c := t.wait = 10) rfl l2 (fun h => by rw [h]) fun h => by
    unfold setM
    rw [if_neg (by decide), if_neg (by decide), if_pos rfl, (dec_num (by omega) n4).1]
    have e : ((t.wait.toNat : Nat) : Int) = t.wait := by omega
    simp only [Option.map_some, e]
  obtain ⟨i4, l4, e4⟩ := tk_opt (nms := names ts) (r := opW (t.on = []) kOn t.on) (t := ⟨t.name, t.after, t.retry, t.wait, 1, []⟩) (t' := ⟨t.name, t.after, t.retry, t.wait, t.base, []⟩) (i := i3) (j := 3) (k := kBase) (v := dec t.base) (c := t.base = 1) rfl l3 (fun h => by rw [h]) fun h => by
    unfold setM
    rw [if_neg (by decide), if_neg (by decide), if_neg (by decide), if_pos rfl, (dec_num (by omega) n6).1]
    have e : ((t.base.toNat : Nat) : Int) = t.base := by omega
    simp only [Option.map_some, e]
  obtain ⟨i5, l5, e5⟩ := tk_opt (nms := names ts) (r := []) (t := ⟨t.name, t.after, t.retry, t.wait, t.base, []⟩) (t' := t) (i := i4) (j := 4) (k := kOn) (v := t.on) (c := t.on = []) rfl l4 (fun h => by rw [← h]) fun h => by
    unfold setM
    rw [if_neg (by decide), if_neg (by decide), if_neg (by decide), if_neg (by decide), if_pos rfl, if_neg h]
  rw [List.append_nil] at e5
  rw [List.tail_cons, e1, e2, e3, e4, e5, tkM]
/-! the bytes -/
theorem toldB {ts : List Tk} (hF : Fit ts) {t : Tk} (ht : t ∈ ts) : ∀ s ∈ showW ts t, ∀ b ∈ s, b ∈ alN ∨ b = 44 ∨ b = 61 := by
  obtain ⟨n1, n2, n3, n4, n5, n6⟩ := hF.num t ht
  obtain ⟨a1, a2⟩ := hF.aft t ht
  have hop : ∀ (c : Prop) [Decidable c] (k v : Str), (∀ b ∈ k, b ∈ alN) → (¬ c → ∀ b ∈ v, b ∈ alN ∨ b = 44) → ∀ s ∈ opW c k v, ∀ b ∈ s, b ∈ alN ∨ b = 44 ∨ b = 61 := by
    intro c _ k v hk hv s hs b hb
    unfold opW at hs
    split at hs
    · cases hs
    · rename_i hc
      rw [List.mem_singleton] at hs
      subst hs
      unfold wrd at hb
      rw [List.mem_append, List.mem_cons] at hb
      rcases hb with hb | hb | hb
      · exact .inl (hk b hb)
      · exact .inr (.inr hb)
      · exact (hv hc b hb).imp id .inl
  have hdig : ∀ n : Int, 0 ≤ n → n ≤ 1000 → ∀ b ∈ dec n, b ∈ alN ∨ b = 44 := fun n h0 h1 b hb => by
    obtain ⟨x, y⟩ := (dec_num h0 h1).2.2 b hb
    exact .inl (dig_al b x y)
  intro s hs
  unfold showW at hs
  simp only [List.mem_cons, List.mem_append] at hs
  rcases hs with rfl | hs | hs | hs | hs | hs
  · intro b hb
    exact .inl ((hF.nm _ (List.mem_map.2 ⟨t, ht, rfl⟩)).2.2 b hb)
  · refine hop _ _ _ (by decide) (fun _ b hb => ?_) s hs
    rcases joi_mem hb with rfl | ⟨u, hu, hb⟩
    · exact .inr rfl
    · obtain ⟨a, ha, rfl⟩ := List.mem_map.1 hu
      exact .inl ((hF.nm _ (nmAt_get (a1 a ha).1 (a1 a ha).2).2).2.2 b hb)
  · exact hop _ _ _ (by decide) (fun _ => hdig _ n1 (by omega)) s hs
  · exact hop _ _ _ (by decide) (fun _ => hdig _ (by omega) n4) s hs
  · exact hop _ _ _ (by decide) (fun _ => hdig _ (by omega) n6) s hs
  · refine hop _ _ _ (by decide) (fun hc b hb => ?_) s hs
    rcases hF.on t ht with q | q
    · exact absurd q hc
    · exact .inl (q.2 b hb)
theorem okB {b : Nat} (h : b ∈ alN ∨ b = 44 ∨ b = 61) : b ≠ 32 ∧ b ≠ 59 ∧ b < 256 := by
  rcases h with h | rfl | rfl
  · have := alN_ne b h; omega
  · decide
  · decide
theorem showB {ts : List Tk} (hF : Fit ts) {t : Tk} (ht : t ∈ ts) : ∀ b ∈ showT ts t, b ≠ 59 ∧ b < 256 := by
  intro b hb
  rw [showT_eq] at hb
  rcases joi_mem hb with rfl | ⟨s, hs, hb⟩
  · decide
  · have := okB (toldB hF ht s hs b hb); omega
theorem wds_show {ts : List Tk} (hF : Fit ts) {t : Tk} (ht : t ∈ ts) : wds (showT ts t) = showW ts t := by
  unfold wds
  rw [showT_eq]
  exact spl_joi (by unfold showW; simp) fun s hs q => (okB (toldB hF ht s hs 32 q)).1 rfl
theorem tsM_show {ts : List Tk} (hF : Fit ts) : ∀ {us : List Tk}, (∀ t ∈ us, t ∈ ts) → tsM (names ts) (us.map (showT ts)) = some us
  | [], _ => rfl
  | u :: us, h => by
    show tsM (names ts) (showT ts u :: us.map (showT ts)) = _
    rw [tsM, wds_show hF (h u (.head _)), taskM_show hF (h u (.head _)), tsM_show hF fun t ht => h t (.tail _ ht)]; rfl
theorem dup_nodup {ts : List Tk} (h : (List.range ts.length).any (dup ts) = false) : (names ts).Nodup := by
  rw [List.any_eq_false] at h
  have key : ∀ k, k ≤ ts.length → (names (ts.take k)).Nodup := by
    intro k
    induction k with
    | zero => intro _; rw [List.take_zero]; exact List.nodup_nil
    | succ k ih =>
      intro hk
      have hg : ts[k]? = some (ts[k]'(by omega)) := List.getElem?_eq_getElem (by omega)
      have h1 := h k (List.mem_range.2 (by omega))
      unfold dup at h1
      rw [hg] at h1
      rw [List.take_add_one, hg]
      have h2 : ((names (ts.take k)).any fun s => s == (ts[k]'(by omega)).name) = false := by
        simp only at h1
        rwa [Bool.not_eq_true] at h1
      rw [List.any_eq_false] at h2
      unfold names at ih h2 ⊢
      rw [List.map_append, List.nodup_append]
      refine ⟨ih (by omega), by simp, fun a ha b hb e => ?_⟩
      simp only [Option.toList_some, List.map_cons, List.map_nil, List.mem_singleton] at hb
      subst hb
      exact h2 a ha (by simp [e])
  have := key ts.length (Nat.le_refl _)
  rwa [List.take_length] at this
theorem fit_of {ts : List Tk} (h : goodM ts = 0) (hal : ∀ t ∈ ts, t.after.length ≤ 16) : Fit ts ∧ 1 ≤ ts.length ∧ ts.length ≤ 16 := by
  unfold goodM at h
  split at h
  · cases h
  · rename_i h1
    split at h
    · cases h
    · rename_i h2
      split at h
      · cases h
      · rename_i h6
        split at h
        · cases h
        · rename_i h3
          split at h
          · cases h
          · rename_i h4
            have h1 := Decidable.not_not.1 h1
            have ha := any_p4 (by simpa using h4)
            rw [Bool.not_eq_true, List.any_eq_false] at h2 h3
            have hq : ∀ t ∈ ts, odd1 t = false ∧ odd3 t = false ∧ ∀ a ∈ t.after, 0 ≤ a ∧ a ≤ (ts.length : Int) - 1 := fun t ht => by
              obtain ⟨i, hi⟩ := List.getElem?_of_mem ht
              have hil := (List.getElem?_eq_some_iff.1 hi).1
              have a := h2 i (List.mem_range.2 hil)
              have b := h3 i (List.mem_range.2 hil)
              unfold p1 at a
              unfold p3 at b
              rw [hi] at a b
              exact ⟨by simpa using a, by simpa using b, fun a ha' => ⟨((aft_all ha hi).1 a ha').1, ((aft_all ha hi).1 a ha').2.1⟩⟩
            refine ⟨⟨dup_nodup (by simpa using h6), fun s hs => ?_, fun t ht => ⟨(hq t ht).2.2, hal t ht⟩, fun t ht => ?_, fun t ht => ?_⟩, h1⟩
            · obtain ⟨t, ht, rfl⟩ := List.mem_map.1 hs
              have := (hq t ht).1
              unfold odd1 at this
              rw [Bool.or_eq_false_iff] at this
              exact okN_in (by simpa using this.1)
            · have := (hq t ht).2.1
              unfold odd3 at this
              simp only [Bool.or_eq_false_iff, Bool.not_eq_false', Bool.and_eq_true, decide_eq_true_eq] at this
              omega
            · have := (hq t ht).1
              unfold odd1 at this
              rw [Bool.or_eq_false_iff, Bool.and_eq_false_iff] at this
              rcases this.2 with q | q
              · exact .inl (by simpa using q)
              · exact .inr (okN_in (by simpa using q)).2
/-! the length -/
theorem placesM_nm {ts : List Tk} : ∀ {r : List Str} {l : List Int}, placesM (names ts) r = some l → l.map (nmAt ts) = r
  | [], l, h => by cases h; rfl
  | s :: r, l, h => by
    unfold placesM at h
    split at h
    · rename_i i hi
      rw [Option.map_eq_some_iff] at h
      obtain ⟨l', h1, rfl⟩ := h
      rw [List.map_cons, placesM_nm h1]
      have hs : nmAt ts (i : Int) = s := by
        rw [List.findIdx?_eq_some_iff_getElem] at hi
        obtain ⟨h2, h3, _⟩ := hi
        have h4 : (names ts)[i] = s := by simpa using (beq_iff_eq.1 h3).symm
        unfold nmAt
        rw [Int.toNat_natCast, List.getD_eq_getElem?_getD, List.getElem?_eq_getElem h2, h4]; rfl
      rw [hs]
    · cases h
theorem sfx_len (ts : List Tk) : ∀ (l : List Int), l ≠ [] → (sfx ts true l).length = 7 + (joi 44 (l.map (nmAt ts))).length ∧ (sfx ts false l).length = 1 + (joi 44 (l.map (nmAt ts))).length
  | [], h => absurd rfl h
  | a :: r, _ => by
    constructor
    · rw [sfx_t]; simp; omega
    · rw [sfx_f, List.map_cons, joi_cons, List.flatMap_cons]; simp; omega
theorem sfx_app (ts : List Tk) : ∀ (l m : List Int) (f : Bool), (sfx ts f (l ++ m)).length = (sfx ts f l).length + (sfx ts (f && l.isEmpty) m).length
  | [], m, f => by simp [sfx]
  | a :: l, m, f => by
    have := sfx_app ts l m false
    simp [sfx] at this ⊢
    omega
theorem set_len {ts : List Tk} {t t' : Tk} {k v : Str} (h : setM t k v (names ts) = some t') : (showT ts t').length ≤ (showT ts t).length + k.length + v.length + 2 ∧ t'.name = t.name := by
  have told : ∀ (key : Str) (n p q : Int), (toldM key n p).length ≤ (toldM key q p).length + key.length + (dec n).length := by
    intro key n p q
    unfold toldM
    split <;> split <;> simp <;> omega
  have hnum : ∀ {n : Nat}, numM v = some n → (dec (n : Int)).length = v.length := fun h => by rw [num_dec h]
  unfold setM at h
  split at h
  · rename_i hk
    subst hk
    rw [Option.map_eq_some_iff] at h
    obtain ⟨l, h1, rfl⟩ := h
    have h2 := placesM_nm h1
    have hl : l ≠ [] := by
      intro e; subst e
      exact spl_ne 44 v h2.symm
    have h3 := sfx_len ts l hl
    rw [h2, joi_spl] at h3
    have h4 := sfx_app ts t.after l true
    refine ⟨?_, rfl⟩
    unfold showT
    simp only [List.length_append] at h4 ⊢
    have h5 : (sfx ts (true && t.after.isEmpty) l).length ≤ 7 + v.length := by
      cases (true && t.after.isEmpty)
      · rw [h3.2]; omega
      · rw [h3.1]; omega
    show _ ≤ _ + 5 + _ + 2
    omega
  · split at h
    · rename_i _ hk
      subst hk
      rw [Option.map_eq_some_iff] at h
      obtain ⟨n, h1, rfl⟩ := h
      refine ⟨?_, rfl⟩
      have a := told [32, 114, 101, 116, 114, 121, 61] (n : Int) 0 t.retry
      have b := hnum h1
      unfold showT
      simp only [List.length_append, List.length_cons, List.length_nil] at a ⊢
      omega
    · split at h
      · rename_i _ _ hk
        subst hk
        rw [Option.map_eq_some_iff] at h
        obtain ⟨n, h1, rfl⟩ := h
        refine ⟨?_, rfl⟩
        have a := told [32, 119, 97, 105, 116, 61] (n : Int) 10 t.wait
        have b := hnum h1
        unfold showT
        simp only [List.length_append, List.length_cons, List.length_nil] at a ⊢
        omega
      · split at h
        · rename_i _ _ _ hk
          subst hk
          rw [Option.map_eq_some_iff] at h
          obtain ⟨n, h1, rfl⟩ := h
          refine ⟨?_, rfl⟩
          have a := told [32, 98, 97, 115, 101, 61] (n : Int) 1 t.base
          have b := hnum h1
          unfold showT
          simp only [List.length_append, List.length_cons, List.length_nil] at a ⊢
          omega
        · split at h
          · rename_i _ _ _ _ hk
            subst hk
            split at h
            · cases h
            · rename_i hv
              cases h
              refine ⟨?_, rfl⟩
              unfold showT
              simp only [if_neg hv, List.length_append, List.length_cons, List.length_nil]
              omega
          · rw [Option.map_eq_some_iff] at h
            obtain ⟨n, h1, rfl⟩ := h
            exact ⟨by omega, rfl⟩
theorem cut_split {c : Nat} {s : Str} (h : (cut c s).1.length ≠ s.length) : s.length = (cut c s).1.length + 1 + (cut c s).2.1.length := by
  unfold cut at h ⊢
  cases hi : idxB c s 0 with
  | none => rw [hi] at h; exact absurd rfl h
  | some i =>
    obtain ⟨a, r, rfl, h2, h3⟩ := idxB_some hi
    rw [Nat.zero_add] at h2
    subst h2
    simp
    omega
theorem tk_len2 {ts : List Tk} : ∀ {r : List Str} {t t' : Tk} {ks : List Str}, tkM (names ts) r t ks = some t' → (showT ts t').length ≤ (showT ts t).length + sumL r + r.length ∧ t'.name = t.name
  | [], t, t', ks, h => by cases h; exact ⟨by simp, rfl⟩
  | s :: r, t, t', ks, h => by
    unfold tkM at h
    split at h
    · cases h
    · split at h
      · cases h
      · rename_i hne
        split at h
        · cases h
        · rename_i t1 h1
          obtain ⟨a1, a2⟩ := set_len h1
          obtain ⟨b1, b2⟩ := tk_len2 h
          have := cut_split hne
          have hs : sumL (s :: r) = s.length + sumL r := by simp [sumL]
          refine ⟨?_, b2.trans a2⟩
          rw [hs]; simp only [List.length_cons]; omega
theorem task_len {ts : List Tk} {p : Str} {t : Tk} (h : taskM (names ts) (wds p) = some t) : (showT ts t).length ≤ p.length := by
  unfold taskM at h
  obtain ⟨h1, h2⟩ := tk_len2 h
  have h3 : sumL (wds p) + (wds p).length = p.length + 1 := spl_sum 32 p
  have hne : wds p ≠ [] := spl_ne 32 p
  cases hw : wds p with
  | nil => exact absurd hw hne
  | cons a b =>
    rw [hw] at h1 h3
    have e : showT ts ⟨(a :: b).headD [], [], 0, 10, 1, []⟩ = a := by simp [showT, sfx, toldM]
    rw [e] at h1
    have hs : sumL (a :: b) = a.length + sumL b := by simp [sumL]
    rw [hs] at h3
    simp only [List.tail_cons, List.length_cons] at h1 h3
    omega
theorem tkM_name {nms : List Str} : ∀ {r : List Str} {t t' : Tk} {ks : List Str}, tkM nms r t ks = some t' → t'.name = t.name
  | [], t, t', ks, h => by cases h; rfl
  | s :: r, t, t', ks, h => by
    unfold tkM at h
    split at h
    · cases h
    · split at h
      · cases h
      · split at h
        · cases h
        · rename_i t1 h1
          rw [tkM_name h]
          unfold setM at h1
          split at h1
          · rw [Option.map_eq_some_iff] at h1; obtain ⟨m, _, rfl⟩ := h1; rfl
          · split at h1
            · rw [Option.map_eq_some_iff] at h1; obtain ⟨m, _, rfl⟩ := h1; rfl
            · split at h1
              · rw [Option.map_eq_some_iff] at h1; obtain ⟨m, _, rfl⟩ := h1; rfl
              · split at h1
                · rw [Option.map_eq_some_iff] at h1; obtain ⟨m, _, rfl⟩ := h1; rfl
                · split at h1
                  · split at h1
                    · cases h1
                    · cases h1; rfl
                  · rw [Option.map_eq_some_iff] at h1; obtain ⟨m, _, rfl⟩ := h1; rfl
theorem tsM_names {nms : List Str} : ∀ {r : List Str} {ts : List Tk}, tsM nms r = some ts → names ts = r.map hdw
  | [], ts, h => by cases h; rfl
  | s :: r, ts, h => by
    unfold tsM at h
    split at h
    · cases h
    · rename_i t ht
      rw [Option.map_eq_some_iff] at h
      obtain ⟨l, h1, rfl⟩ := h
      have h2 := tsM_names h1
      unfold taskM at ht
      have h3 := tkM_name ht
      unfold names at h2 ⊢
      rw [List.map_cons, List.map_cons, h2, h3]
theorem tsM_sum {ts : List Tk} : ∀ {r : List Str} {us : List Tk}, tsM (names ts) r = some us → sumL (us.map (showT ts)) ≤ sumL r ∧ us.length = r.length
  | [], us, h => by cases h; exact ⟨Nat.le_refl _, rfl⟩
  | s :: r, us, h => by
    unfold tsM at h
    split at h
    · cases h
    · rename_i t ht
      rw [Option.map_eq_some_iff] at h
      obtain ⟨l, h1, rfl⟩ := h
      obtain ⟨a, b⟩ := tsM_sum h1
      have c := task_len ht
      simp only [sumL, List.map_cons, List.sum_cons, List.length_cons] at a b c ⊢
      omega
theorem after_le0 {ts : List Tk} (hn : ts.length ≤ 16) (ha : aftAll ts) : ∀ t ∈ ts, t.after.length ≤ 16 := fun t ht => by
  obtain ⟨i, hi⟩ := List.getElem?_of_mem ht
  obtain ⟨x1, x2⟩ := aft_all ha hi
  have := nodup_le (n := ts.length) (fun a h => ⟨(x1 a h).1, (x1 a h).2.1⟩) x2
  omega
/-- a definition that is read is shown no longer than its text, and is read again as the same -/
theorem parse_show {text : Str} (h : (parseM text).2 = 0) : goodM (parseM text).1 = 0 ∧ Fit (parseM text).1 ∧ 1 ≤ (parseM text).1.length ∧ (parseM text).1.length ≤ 16 ∧ (showM (parseM text).1).length ≤ text.length ∧ text.length ≤ 1024 ∧ parseM (showM (parseM text).1) = ((parseM text).1, 0) := by
  obtain ⟨g1, g2, g3, g4, g5, g6⟩ := parseM_good h
  have hal := after_le0 g3 g4
  obtain ⟨hF, f1, f2⟩ := fit_of g1 hal
  have hb : ¬ 1024 < text.length := fun hb => by unfold parseM at h; rw [if_pos hb] at h; cases h
  have hts : tsM ((spl 59 text).map hdw) (spl 59 text) = some (parseM text).1 := by
    unfold parseM at h ⊢
    rw [if_neg hb] at h ⊢
    cases hq : tsM ((spl 59 text).map hdw) (spl 59 text) with
    | none => rw [hq] at h; cases h
    | some ts =>
      rw [hq] at h
      simp only at h ⊢
      by_cases h0 : goodM ts = 0
      · rw [if_pos h0]
      · rw [if_neg h0] at h; exact absurd h h0
  generalize (parseM text).1 = ts at *
  have hnm := tsM_names hts
  rw [← hnm] at hts
  obtain ⟨s1, s2⟩ := tsM_sum hts
  have hsp := spl_sum 59 text
  have hne : ts.map (showT ts) ≠ [] := by
    intro e
    have : (ts.map (showT ts)).length = 0 := by rw [e]; rfl
    rw [List.length_map] at this; omega
  have hjl := joi_len 59 _ hne
  rw [List.length_map] at hjl
  have hsm : showM ts = joi 59 (ts.map (showT ts)) := by unfold showM; rw [if_pos g1]
  have hlen : (showM ts).length ≤ text.length := by rw [hsm]; omega
  refine ⟨g1, hF, f1, f2, hlen, by omega, ?_⟩
  have hspl : spl 59 (showM ts) = ts.map (showT ts) := by
    rw [hsm]
    refine spl_joi hne fun p hp q => ?_
    obtain ⟨t, ht, rfl⟩ := List.mem_map.1 hp
    exact (showB hF ht 59 q).1 rfl
  have hnames : (ts.map (showT ts)).map hdw = names ts := by
    rw [List.map_map]
    unfold names
    refine List.map_congr_left fun t ht => ?_
    show hdw (showT ts t) = t.name
    unfold hdw
    rw [wds_show hF ht]; rfl
  unfold parseM
  rw [if_neg (by omega), hspl, hnames, tsM_show hF fun t ht => ht]
  simp only
  rw [if_pos g1]
end Go.Proofs.YthljbjokonglhaaGreatDoor.DfK
