/- The reference store's goodName, as a contract over the symbolic heap, and that it is the store's own test of a name. Conditions: the name's length is that of a string of the model. -/
import Derived.Test.YtnabkcdchklnpaaDoorNamesWalk
import Derived.Test.YtnabkcdchklnpaaDoorAm16
namespace Go.Proofs.YtnabkcdchklnpaaDoor.StP
open Go Am Am.K StEnv StK StC
set_option linter.unusedVariables false
set_option linter.unusedSimpArgs false
set_option maxRecDepth 10000
/-!  -/
/-- may a byte stand in a name? -/
def gch (c : Nat) : Bool := !((decide ((c : Int) < 97) || decide ((122 : Int) < c)) && (decide ((c : Int) < 48) || decide ((57 : Int) < c)) && ((c : Int) != 45))
def goodN (s : List Nat) : Bool := s.all gch && (decide (1 ≤ s.length) && decide (s.length ≤ 16))
theorem good_loop (j1 : Am.K.Fn 1) (s : List Nat) (hs : s.length ≤ 1000000000000000000) (H : Hp) : ∀ (m i : Nat), i + m = s.length →
    l_outriderref1_goodName JN GO cK j1 (.str s) (.int .i64 i) H = if (s.drop i).all gch = true then j1 (.str s) H else some (.bool false, H) := by
  intro m
  induction m with
  | zero =>
    intro i hi
    obtain rfl : i = s.length := by omega
    have d : decide (((s.length : Nat) : Int) < ((s.length : Nat) : Int)) = false := decide_eq_false (by omega)
    rw [ql_outriderref1_goodName]
    simp only [bl_outriderref1_goodName, d, k_s, k_x, Int.reduceBEq, Int.reduceBNe, Int.reduceLT, Int.reduceLE, Int.reduceGT, Int.reduceGE, Int.reduceNeg]
    simp
  | succ m ih =>
    intro i hi
    have hlt : i < s.length := by omega
    obtain ⟨c, hc⟩ : ∃ c, s[i]? = some c := ⟨s[i], List.getElem?_eq_getElem hlt⟩
    have hx := ixs_n .i64 hc
    have hd : s.drop i = c :: s.drop (i + 1) := by
      rw [List.drop_eq_getElem_cons hlt]
      rw [List.getElem?_eq_getElem hlt] at hc
      rw [Option.some.inj hc]
    have d : decide ((i : Int) < ((s.length : Nat) : Int)) = true := decide_eq_true (by omega)
    have es : IntKind.wrap .i64 ((i : Int) + 1) = ((i + 1 : Nat) : Int) := by rw [wrap_i64 (by omega) (by omega)]; rfl
    have ih' := ih (i + 1) (by omega)
    rw [hd, List.all_cons]
    rw [ql_outriderref1_goodName]
    have hg : gch c = !((decide ((c : Int) < 97) || decide ((122 : Int) < c)) && (decide ((c : Int) < 48) || decide ((57 : Int) < c)) && ((c : Int) != 45)) := rfl
    cases b1 : decide ((c : Int) < 97) <;> cases b2 : decide ((122 : Int) < (c : Int)) <;> cases b3 : decide ((c : Int) < 48) <;> cases b4 : decide ((57 : Int) < (c : Int)) <;> cases b5 : ((c : Int) != 45) <;>
      (rw [b1, b2, b3, b4, b5] at hg
       simp only [Bool.or_true, Bool.or_false, Bool.and_true, Bool.and_false, Bool.true_or, Bool.false_or, Bool.not_true, Bool.not_false, Bool.true_and, Bool.false_and] at hg
       simp only [bl_outriderref1_goodName, d, hx, b1, b2, b3, b4, b5, es, ih', hg, Bool.true_and, Bool.false_and, Bool.false_eq_true, if_false, k_s, k_x, Int.reduceBEq, Int.reduceBNe, Int.reduceLT, Int.reduceLE, Int.reduceGT, Int.reduceGE, Int.reduceNeg])
theorem good_c (s : List Nat) (hs : s.length ≤ 1000000000000000000) (H : Hp) : cK (.func (.func 47) [] []) [.str s] H = some (.bool (goodN s), H) := by
  have h0 := fun j1 => good_loop j1 s hs H s.length 0 (by omega)
  have z : ((0 : Nat) : Int) = 0 := rfl
  rw [z] at h0
  refine c_outriderref1_goodName ?_
  unfold s_outriderref1_goodName goodN
  cases ha : s.all gch with
  | false =>
    simp only [h0, List.drop_zero, ha, Bool.false_and, Bool.false_eq_true, if_false, k_s, k_x, Int.reduceBEq, Int.reduceBNe, Int.reduceLT, Int.reduceLE, Int.reduceGT, Int.reduceGE, Int.reduceNeg]
  | true =>
    have e1 : decide ((1 : Int) ≤ (s.length : Nat)) = decide (1 ≤ s.length) := decide_eq_decide.2 (by omega)
    have e2 : decide (((s.length : Nat) : Int) ≤ 16) = decide (s.length ≤ 16) := decide_eq_decide.2 (by omega)
    cases b1 : decide (1 ≤ s.length) <;> cases b2 : decide (s.length ≤ 16) <;>
      simp only [h0, List.drop_zero, ha, if_true, e1, e2, b1, b2, Bool.and_true, Bool.true_and, Bool.and_false, Bool.false_and, k_s, k_x, Int.reduceBEq, Int.reduceBNe, Int.reduceLT, Int.reduceLE, Int.reduceGT, Int.reduceGE, Int.reduceNeg]
end Go.Proofs.YtnabkcdchklnpaaDoor.StP
namespace Go.Proofs.YtnabkcdchklnpaaDoor.StC
open Go Am Am.K StEnv StK
set_option linter.unusedVariables false
set_option linter.unusedSimpArgs false
set_option maxRecDepth 10000

/-! files come and go -/
theorem incr_cons (c : Nat) (x : ME) (es : List ME) (p : Nat) : incr c (x :: es) p = true ↔ p ≤ x.born ∧ x.born < c ∧ incr c es (x.born + 1) = true := by
  show F.bothB (Nat.ble p x.born) (F.bothB (Nat.blt x.born c) (incr c es (x.born + 1))) = true ↔ _
  rw [F.bothB_eq, F.bothB_eq, Bool.and_eq_true, Bool.and_eq_true, Nat.ble_eq, Nat.blt_eq]
theorem incr_mono (c : Nat) : ∀ (es : List ME) (p q : Nat), q ≤ p → incr c es p = true → incr c es q = true
  | [], p, q, h, _ => rfl
  | x :: es, p, q, h, hi => by
    rw [incr_cons] at hi ⊢
    exact ⟨by omega, hi.2⟩
theorem incr_del (c : Nat) (x : ME) (b : List ME) : ∀ (a : List ME) (p : Nat), incr c (a ++ x :: b) p = true → incr c (a ++ b) p = true
  | [], p, h => by
    rw [List.nil_append, incr_cons] at h
    exact incr_mono c b _ _ (by omega) h.2.2
  | y :: a, p, h => by
    rw [List.cons_append, incr_cons] at h ⊢
    exact ⟨h.1, h.2.1, incr_del c x b a _ h.2.2⟩
theorem incr_add (c : Nat) (x : ME) (hx : x.born = c) : ∀ (a : List ME) (p : Nat), p ≤ c → incr c a p = true → incr (c + 1) (a ++ [x]) p = true
  | [], p, hp, h => by
    rw [List.nil_append, incr_cons]
    exact ⟨by omega, by omega, rfl⟩
  | y :: a, p, hp, h => by
    rw [incr_cons] at h
    rw [List.cons_append, incr_cons]
    exact ⟨h.1, by omega, incr_add c x hx a _ (by omega) h.2.2⟩
theorem incr_set (c : Nat) (x y : ME) (hx : y.born = x.born) (b : List ME) : ∀ (a : List ME) (p : Nat), incr c (a ++ x :: b) p = true → incr c (a ++ y :: b) p = true
  | [], p, h => by
    rw [List.nil_append, incr_cons] at h ⊢
    rw [hx]; exact h
  | z :: a, p, h => by
    rw [List.cons_append, incr_cons] at h ⊢
    exact ⟨h.1, h.2.1, incr_set c x y hx b a _ h.2.2⟩
def delF (n : List Nat) (fs : List Fl) : List Fl := fs.filter fun f => !(f.nm == n)
theorem delF_split {a b : List FC} {x : FC} {n : List Nat} (hx : x.f.nm = n) (ha : ∀ y ∈ a, y.f.nm ≠ n) (hb : ∀ y ∈ b, y.f.nm ≠ n) : delF n ((a ++ x :: b).map (·.f)) = (a ++ b).map (·.f) := by
  unfold delF
  rw [List.map_append, List.map_cons, List.filter_append, List.filter_cons]
  have h1 : (!(x.f.nm == n)) = false := by rw [hx]; simp
  have hf : ∀ l : List FC, (∀ y ∈ l, y.f.nm ≠ n) → (l.map (·.f)).filter (fun f => !(f.nm == n)) = l.map (·.f) := fun l hl => List.filter_eq_self.2 fun f hf => by
    obtain ⟨y, hy, rfl⟩ := List.mem_map.1 hf
    simpa using hl y hy
  rw [h1, hf a ha, hf b hb, List.map_append]
  simp
section
variable {H : Hp} {p : Nat} {m : SM} {L : Lay}
theorem St.mid_nf (h : St H p m L) : p ≠ L.mid ∧ L.mid ∉ rid L.keep ∧ ∀ y ∈ L.cs, L.mid ∉ y.ids := by
  have hnd := h.nd
  unfold foot at hnd
  rw [List.nodup_cons, List.nodup_cons] at hnd
  exact ⟨fun q => hnd.1 (by rw [q]; exact .head _), fun q => hnd.2.1 (List.mem_append_left _ q), fun y hy q => hnd.2.1 (List.mem_append_right _ (List.mem_flatMap.2 ⟨y, hy, q⟩))⟩
theorem St.outMid {H' : Hp} (h : St H p m L) (ho : Out [L.mid] H H') : C0 H' p [.int .i64 m.room, .map L.mid, .bool m.off, .int .i64 m.fuse, L.keep] ∧ Rw H' 1 L.keep (ints m.keep) ∧
    ∀ x ∈ L.cs, C0 H' x.id [x.sl, .int .i64 x.f.sure] ∧ Ow H' 5 1 x.sl (bs x.f.b) := by
  obtain ⟨n1, n2, n3⟩ := h.mid_nf
  have e : ∀ j, j ≠ L.mid → j ∉ [L.mid] := fun j hj q => hj (List.mem_singleton.1 q)
  exact ⟨h.head.out ho (e _ n1), h.keep.out ho fun j hj => e _ fun q => n2 (q ▸ hj), fun x hx => ⟨(h.file x hx).1.out ho (e _ fun q => n3 x hx (q ▸ .head _)), (h.file x hx).2.out ho fun j hj => e _ fun q => n3 x hx (q ▸ .tail _ hj)⟩⟩
theorem St.delFile (h : St H p m L) {a b : List FC} {x : FC} (hL : L.cs = a ++ x :: b) (ha : ∀ y ∈ a, y.f.nm ≠ x.f.nm) (hb : ∀ y ∈ b, y.f.nm ≠ x.f.nm) :
    ∃ H', mdel .str (.map L.mid) (.str x.f.nm) H = some H' ∧ St H' p { m with fs := delF x.f.nm m.fs } { L with cs := a ++ b } ∧ Go' p H L H' { L with cs := a ++ b } ∧
      C0 H' x.id [x.sl, .int .i64 x.f.sure] ∧ Ow H' 5 1 x.sl (bs x.f.b) ∧ (∀ j ∈ x.ids, j ∉ foot p { L with cs := a ++ b }) ∧ x.ids.Nodup := by
  have hm := h.map
  rw [hL, List.map_append, List.map_cons] at hm
  obtain ⟨H', d1, d2, d3⟩ := mdel_some hm (k := x.f.nm) rfl (keys_ne ha) (keys_ne hb)
  obtain ⟨c1, c2, c3⟩ := h.outMid d3
  have hfs : delF x.f.nm m.fs = (a ++ b).map (·.f) := by rw [h.fs, hL, delF_split rfl ha hb]
  have hsub : ∀ f ∈ delF x.f.nm m.fs, f ∈ m.fs := fun f hf => (List.mem_filter.1 hf).1
  have hxL : x ∈ L.cs := by rw [hL]; simp
  have mem : ∀ y ∈ a ++ b, y ∈ L.cs := fun y hy => by
    rw [hL]
    rcases List.mem_append.1 hy with q | q
    · exact List.mem_append_left _ q
    · exact List.mem_append_right _ (.tail _ q)
  have hnd := h.nd
  unfold foot at hnd
  rw [hL, List.flatMap_append, List.flatMap_cons, List.nodup_cons, List.nodup_cons, List.nodup_append, List.nodup_append, List.nodup_append] at hnd
  obtain ⟨n1, n2, n3, ⟨n4, ⟨n5, n6, n7⟩, n8⟩, n9⟩ := hnd
  have hsum : sumB (delF x.f.nm m.fs) ≤ sumB m.fs := by
    rw [hfs, h.fs, hL, List.map_append, List.map_append, List.map_cons, sumB_app, sumB_app, sumB_cons]; omega
  refine ⟨H', d1, ⟨c1, by rw [List.map_append]; exact d2, fun y hy => c3 y (mem y hy), c2, ?_, ?_, hfs, ⟨h.ok.room, Nat.le_trans hsum h.ok.sum, fun f hf => h.ok.sure f (hsub f hf), fun f hf => h.ok.byte f (hsub f hf), h.ok.fuse, ?_, fun f hf => h.ok.good f (hsub f hf), ?_⟩⟩,
    ⟨d3.mono fun j hj => by rw [List.mem_singleton.1 hj]; exact St.mem_mid, fun j hj => .inl ?_⟩, (c3 x hxL).1, (c3 x hxL).2, ?_, n5⟩
  · unfold foot
    rw [List.flatMap_append, List.nodup_cons, List.nodup_cons, List.nodup_append, List.nodup_append]
    refine ⟨fun q => ?_, fun q => ?_, n3, ⟨n4, n6, fun j hj k hk => n8 j hj k (List.mem_append_right _ hk)⟩, fun j hj k hk => ?_⟩
    · rcases List.mem_cons.1 q with q | q
      · exact n1 (by rw [q]; exact .head _)
      rcases List.mem_append.1 q with q | q
      · exact n1 (.tail _ (List.mem_append_left _ q))
      rcases List.mem_append.1 q with q | q
      · exact n1 (.tail _ (List.mem_append_right _ (List.mem_append_left _ q)))
      · exact n1 (.tail _ (List.mem_append_right _ (List.mem_append_right _ (List.mem_append_right _ q))))
    · rcases List.mem_append.1 q with q | q
      · exact n2 (List.mem_append_left _ q)
      rcases List.mem_append.1 q with q | q
      · exact n2 (List.mem_append_right _ (List.mem_append_left _ q))
      · exact n2 (List.mem_append_right _ (List.mem_append_right _ (List.mem_append_right _ q)))
    · rcases List.mem_append.1 hk with q | q
      · exact n9 j hj k (List.mem_append_left _ q)
      · exact n9 j hj k (List.mem_append_right _ (List.mem_append_right _ q))
  · have hb' := h.born
    rw [hL, List.map_append, List.map_cons] at hb'
    rw [List.map_append]
    exact incr_del _ _ _ _ _ hb'
  · exact List.Nodup.sublist ((List.filter_sublist).map _) h.ok.names
  · exact Nat.le_trans (List.length_filter_le _ _) h.ok.many
  · unfold foot at hj
    rcases List.mem_cons.1 hj with rfl | hj
    · exact St.mem_p
    rcases List.mem_cons.1 hj with rfl | hj
    · exact St.mem_mid
    rcases List.mem_append.1 hj with hj | hj
    · exact St.mem_keep hj
    · obtain ⟨y, hy, hj⟩ := List.mem_flatMap.1 hj
      exact St.mem_file (mem y hy) hj
  · intro j hj q
    have hj' : j ∈ FC.ids x := hj
    unfold foot at q
    rcases List.mem_cons.1 q with q | q
    · exact n1 (.tail _ (List.mem_append_right _ (List.mem_append_right _ (List.mem_append_left _ (q ▸ hj')))))
    rcases List.mem_cons.1 q with q | q
    · exact n2 (List.mem_append_right _ (List.mem_append_right _ (List.mem_append_left _ (q ▸ hj'))))
    rcases List.mem_append.1 q with q | q
    · exact n9 j q j (List.mem_append_right _ (List.mem_append_left _ hj')) rfl
    · rw [List.flatMap_append] at q
      rcases List.mem_append.1 q with q | q
      · exact n8 j q j (List.mem_append_left _ hj') rfl
      · exact n7 j hj' j q rfl
theorem St.addFile (h : St H p m L) {id : Nat} {sl : AV} {f : Fl} (hne : ∀ y ∈ L.cs, y.f.nm ≠ f.nm) (hc : C0 H id [sl, .int .i64 f.sure]) (hw : Ow H 5 1 sl (bs f.b)) (hd : ∀ j ∈ FC.ids ⟨id, sl, L.clk, f⟩, j ∉ foot p L) (hnd : (FC.ids ⟨id, sl, L.clk, f⟩).Nodup)
    (hsure : f.sure ≤ f.b.length) (hbyte : ∀ c ∈ f.b, c < 256) (hsum : sumB m.fs + f.b.length ≤ m.room) (hgood : okName f.nm = true) (hmany : m.fs.length < 64) :
    ∃ H', mup .str (.map L.mid) (.str f.nm) (.ptr id 0) H = some H' ∧ St H' p { m with fs := m.fs ++ [f] } { L with cs := L.cs ++ [⟨id, sl, L.clk, f⟩], clk := L.clk + 1 } ∧ Out [L.mid] H H' := by
  obtain ⟨H', d1, d2, d3⟩ := mup_new h.map (keys_ne hne) (.ptr id 0)
  obtain ⟨c1, c2, c3⟩ := h.outMid d3
  have hmid : ∀ j ∈ FC.ids ⟨id, sl, L.clk, f⟩, j ∉ [L.mid] := fun j hj q => hd j hj (by rw [List.mem_singleton.1 q]; exact St.mem_mid)
  refine ⟨H', d1, ⟨c1, by rw [List.map_append]; exact d2, fun y hy => ?_, c2, ?_, ?_, by rw [List.map_append, ← h.fs]; rfl, ⟨h.ok.room, by rw [sumB_app, sumB_cons]; exact hsum, fun g hg => ?_, fun g hg => ?_, h.ok.fuse, ?_, fun g hg => ?_, by rw [List.length_append]; simp; omega⟩⟩, d3⟩
  · rcases List.mem_append.1 hy with q | q
    · exact c3 y q
    · rw [List.mem_singleton.1 q]
      exact ⟨hc.out d3 (hmid _ (.head _)), hw.out d3 fun j hj => hmid j (.tail _ hj)⟩
  · have hn := h.nd
    unfold foot at hn ⊢
    rw [List.nodup_cons, List.nodup_cons, List.nodup_append] at hn
    rw [List.flatMap_append, List.nodup_cons, List.nodup_cons, List.nodup_append, List.nodup_append]
    have e : List.flatMap FC.ids [(⟨id, sl, L.clk, f⟩ : FC)] = FC.ids ⟨id, sl, L.clk, f⟩ := by simp
    rw [e]
    obtain ⟨n1, n2, n3, n4, n5⟩ := hn
    refine ⟨fun q => ?_, fun q => ?_, n3, ⟨n4, hnd, fun j hj k hk ek => hd k hk ?_⟩, fun j hj k hk => ?_⟩
    · rcases List.mem_cons.1 q with q | q
      · exact n1 (by rw [q]; exact .head _)
      rcases List.mem_append.1 q with q | q
      · exact n1 (.tail _ (List.mem_append_left _ q))
      rcases List.mem_append.1 q with q | q
      · exact n1 (.tail _ (List.mem_append_right _ q))
      · exact hd _ q St.mem_p
    · rcases List.mem_append.1 q with q | q
      · exact n2 (List.mem_append_left _ q)
      rcases List.mem_append.1 q with q | q
      · exact n2 (List.mem_append_right _ q)
      · exact hd _ q St.mem_mid
    · obtain ⟨y, hy, hj⟩ := List.mem_flatMap.1 hj
      rw [← ek]; exact St.mem_file hy hj
    · rcases List.mem_append.1 hk with q | q
      · exact n5 j hj k q
      · exact fun ek => hd k q (by rw [← ek]; exact St.mem_keep hj)
  · have hb' := h.born
    rw [List.map_append]
    exact incr_add L.clk (FC.me ⟨id, sl, L.clk, f⟩) rfl _ _ (Nat.zero_le _) hb'
  · rcases List.mem_append.1 hg with q | q
    · exact h.ok.sure g q
    · rw [List.mem_singleton.1 q]; exact hsure
  · rcases List.mem_append.1 hg with q | q
    · exact h.ok.byte g q
    · rw [List.mem_singleton.1 q]; exact hbyte
  · rw [List.map_append, List.nodup_append]
    refine ⟨h.ok.names, by simp, fun n hn k hk => ?_⟩
    obtain ⟨g, hg, rfl⟩ := List.mem_map.1 hn
    rw [h.fs] at hg
    obtain ⟨y, hy, rfl⟩ := List.mem_map.1 hg
    simp only [List.map_cons, List.map_nil, List.mem_singleton] at hk
    rw [hk]; exact hne y hy
  · rcases List.mem_append.1 hg with q | q
    · exact h.ok.good g q
    · rw [List.mem_singleton.1 q]; exact hgood
theorem St.replFile (h : St H p m L) {a b : List FC} {y : FC} (hL : L.cs = a ++ y :: b) {id : Nat} {sl : AV} {f : Fl} (hf : f.nm = y.f.nm) (ha : ∀ z ∈ a, z.f.nm ≠ y.f.nm) (hb : ∀ z ∈ b, z.f.nm ≠ y.f.nm) (hc : C0 H id [sl, .int .i64 f.sure]) (hw : Ow H 5 1 sl (bs f.b)) (hd : ∀ j ∈ FC.ids ⟨id, sl, y.born, f⟩, j ∉ foot p L) (hnd : (FC.ids ⟨id, sl, y.born, f⟩).Nodup)
    (hsure : f.sure ≤ f.b.length) (hbyte : ∀ c ∈ f.b, c < 256) (hsum : sumB (setF y.f.nm f m.fs) ≤ m.room) :
    ∃ H', mup .str (.map L.mid) (.str f.nm) (.ptr id 0) H = some H' ∧ St H' p { m with fs := setF y.f.nm f m.fs } { L with cs := a ++ ⟨id, sl, y.born, f⟩ :: b } ∧ Out [L.mid] H H' := by
  have hm := h.map
  rw [hL, List.map_append, List.map_cons] at hm
  obtain ⟨H', d1, d2, d3⟩ := mup_old hm (k := f.nm) (by rw [hf]; rfl) (by rw [hf]; exact keys_ne ha) (by rw [hf]; exact keys_ne hb) (.ptr id 0)
  obtain ⟨c1, c2, c3⟩ := h.outMid d3
  have hmid : ∀ j ∈ FC.ids ⟨id, sl, y.born, f⟩, j ∉ [L.mid] := fun j hj q => hd j hj (by rw [List.mem_singleton.1 q]; exact St.mem_mid)
  have hyL : y ∈ L.cs := by rw [hL]; simp
  have mA : ∀ z ∈ a, z ∈ L.cs := fun z hz => by rw [hL]; exact List.mem_append_left _ hz
  have mB : ∀ z ∈ b, z ∈ L.cs := fun z hz => by rw [hL]; exact List.mem_append_right _ (.tail _ hz)
  have hfs : setF y.f.nm f m.fs = (a ++ ⟨id, sl, y.born, f⟩ :: b).map (·.f) := by
    rw [h.fs, hL, setF_split rfl ha hb, List.map_append, List.map_cons]
  have hset : ∀ g ∈ setF y.f.nm f m.fs, g = f ∨ g ∈ m.fs := fun g hg => by
    unfold setF at hg
    obtain ⟨g', hg', rfl⟩ := List.mem_map.1 hg
    split
    · exact .inl rfl
    · exact .inr hg'
  have hgy : okName f.nm = true := by rw [hf]; exact h.ok.good y.f (by rw [h.fs]; exact List.mem_map.2 ⟨y, hyL, rfl⟩)
  refine ⟨H', d1, ⟨c1, by rw [List.map_append, List.map_cons]; exact d2, fun z hz => ?_, c2, ?_, ?_, hfs, ⟨h.ok.room, hsum, fun g hg => ?_, fun g hg => ?_, h.ok.fuse, ?_, fun g hg => ?_, by simp only [setF, List.length_map]; exact h.ok.many⟩⟩, d3⟩
  · rcases List.mem_append.1 hz with q | q
    · exact c3 z (mA z q)
    · rcases List.mem_cons.1 q with rfl | q
      · exact ⟨hc.out d3 (hmid _ (.head _)), hw.out d3 fun j hj => hmid j (.tail _ hj)⟩
      · exact c3 z (mB z q)
  · have hn := h.nd
    unfold foot at hn ⊢
    rw [hL, List.flatMap_append, List.flatMap_cons, List.nodup_cons, List.nodup_cons, List.nodup_append, List.nodup_append, List.nodup_append] at hn
    rw [List.flatMap_append, List.flatMap_cons, List.nodup_cons, List.nodup_cons, List.nodup_append, List.nodup_append, List.nodup_append]
    obtain ⟨n1, n2, n3, ⟨n4, ⟨n5, n6, n7⟩, n8⟩, n9⟩ := hn
    have fA : ∀ j ∈ a.flatMap FC.ids, j ∈ foot p L := fun j hj => by
      obtain ⟨z, hz, hj⟩ := List.mem_flatMap.1 hj
      exact St.mem_file (mA z hz) hj
    have fB : ∀ j ∈ b.flatMap FC.ids, j ∈ foot p L := fun j hj => by
      obtain ⟨z, hz, hj⟩ := List.mem_flatMap.1 hj
      exact St.mem_file (mB z hz) hj
    refine ⟨fun q => ?_, fun q => ?_, n3, ⟨n4, ⟨hnd, n6, fun j hj k hk ek => hd j hj (ek ▸ fB k hk)⟩, fun j hj k hk ek => ?_⟩, fun j hj k hk ek => ?_⟩
    · rcases List.mem_cons.1 q with q | q
      · exact n1 (by rw [q]; exact .head _)
      rcases List.mem_append.1 q with q | q
      · exact n1 (.tail _ (List.mem_append_left _ q))
      rcases List.mem_append.1 q with q | q
      · exact n1 (.tail _ (List.mem_append_right _ (List.mem_append_left _ q)))
      rcases List.mem_append.1 q with q | q
      · exact hd _ q St.mem_p
      · exact n1 (.tail _ (List.mem_append_right _ (List.mem_append_right _ (List.mem_append_right _ q))))
    · rcases List.mem_append.1 q with q | q
      · exact n2 (List.mem_append_left _ q)
      rcases List.mem_append.1 q with q | q
      · exact n2 (List.mem_append_right _ (List.mem_append_left _ q))
      rcases List.mem_append.1 q with q | q
      · exact hd _ q St.mem_mid
      · exact n2 (List.mem_append_right _ (List.mem_append_right _ (List.mem_append_right _ q)))
    · rcases List.mem_append.1 hk with q | q
      · exact hd k q (ek ▸ fA j hj)
      · exact n8 j hj k (List.mem_append_right _ q) ek
    · rcases List.mem_append.1 hk with q | q
      · exact n9 j hj k (List.mem_append_left _ q) ek
      rcases List.mem_append.1 q with q | q
      · exact hd k q (ek ▸ St.mem_keep hj)
      · exact n9 j hj k (List.mem_append_right _ (List.mem_append_right _ q)) ek
  · have hb' := h.born
    rw [hL, List.map_append, List.map_cons] at hb'
    rw [List.map_append, List.map_cons]
    exact incr_set _ _ _ (by rfl) _ _ _ hb'
  · rcases hset g hg with rfl | q
    · exact hsure
    · exact h.ok.sure g q
  · rcases hset g hg with rfl | q
    · exact hbyte
    · exact h.ok.byte g q
  · have : (setF y.f.nm f m.fs).map (·.nm) = m.fs.map (·.nm) := by
      unfold setF
      rw [List.map_map]
      refine List.map_congr_left fun g hg => ?_
      simp only [Function.comp]
      split
      · rename_i q; rw [q, hf]
      · rfl
    rw [this]; exact h.ok.names
  · rcases hset g hg with rfl | q
    · exact hgy
    · exact h.ok.good g q
end
section
variable {H : Hp} {p : Nat} {m : SM} {L : Lay}
/-- a file cut -/
noncomputable def cutM (m : SM) (at' : List Nat) (n : Int) : Int × SM := if ofE m at' ≠ 0 then (ofE m at', m) else match look m at' with
  | none => (0, m)
  | some f => if n < 0 ∨ (f.b.length : Int) < n then (1, m) else if burnB m = false then (11, burnM m) else (0, { burnM m with fs := setF at' ⟨f.nm, f.b.take n.toNat, min f.sure n.toNat⟩ m.fs })
theorem cut_c (h : St H p m L) (at' : List Nat) (n : Int) : ∃ H' L', cK (.func (.func 18) [] []) [.ptr p 0, .str at', .int .i64 n] H = some (.int .i64 (cutM m at' n).1, H') ∧ St H' p (cutM m at' n).2 L' ∧ Go' p H L H' L' := by
  have h0 := of_c h at'
  by_cases he : ofE m at' = 0
  · obtain ⟨q1, q2, a, x, b, r1, r2, r3, r4, r5, r6, hx, hf⟩ := h.ofP he
    obtain ⟨hf1, hf2⟩ := h.file x hx
    have hl := hf1.ld (o := 0) rfl
    have hlen := hf2.rw.len1
    rw [bs_len] at hlen
    have hbig : x.f.b.length ≤ 16777216 := by
      have := len_le hf; have := h.ok.sum; have := h.ok.room; omega
    by_cases hn : n < 0
    · have : cutM m at' n = (1, m) := by unfold cutM; rw [if_neg (by simp [he]), r6]; simp only; rw [if_pos (.inl hn)]
      rw [this]
      refine ⟨H, L, c_store_Store_Cut ?_, h, Go'.refl _ _ _⟩
      unfold s_store_Store_Cut
      have d1 : decide (n < 0) = true := decide_eq_true hn
      simp only [h0, he, q1, q2, d1, Bool.false_eq_true, Bool.true_eq_false, or_self, if_false, JN_0, JN_1, JN_2, JN_3, JN_4, JN_5, JN_6, JN_7, JN_8, JN_9, JN_10, JN_11, JN_12, JN_13, JN_14, JN_15, JN_16, JN_17, JN_18, JN_19, JN_20, JN_21, JN_22, JN_23, JN_24, B1_s, B2_s, BN_s, CD_t, CD_f, GO_tt, GO_ft, GO_tf, GO_ff, GO_ut, GO_uf, GD2_tt, GD2_ft, GD2_tf, GD2_ff, pk_t, pk_f, nilA_p, nilA_i, fa_p, fd_a, ex_t, iadd_i, isub_i, imul_i, ieq_i, ine_i, ilt_i, ile_i, igt_i, ige_i, seq_s, sne_s, slt_s, lens_s, lenx_0, lenx_s, not_b, bb_e, bb_n, cv_i, pe_00, pe_0p, pe_p0, eqB_e, eqB_n, List.getElem?_cons_zero, List.getElem?_cons_succ, Nat.zero_add, Bool.not_true, Bool.not_false, decide_true, decide_false, Int.reduceBEq, Int.reduceBNe, Int.reduceLT, Int.reduceLE, Int.reduceGT, Int.reduceGE, Int.reduceNeg, BEq.rfl, bne_self_eq_false, ge_iff_le, gt_iff_lt]
    · have d1 : decide (n < 0) = false := decide_eq_false hn
      by_cases hn2 : (x.f.b.length : Int) < n
      · have : cutM m at' n = (1, m) := by unfold cutM; rw [if_neg (by simp [he]), r6]; simp only; rw [if_pos (.inr hn2)]
        rw [this]
        refine ⟨H, L, c_store_Store_Cut ?_, h, Go'.refl _ _ _⟩
        unfold s_store_Store_Cut
        have d2 : decide ((x.f.b.length : Int) < n) = true := decide_eq_true hn2
        simp only [h0, he, q1, q2, d1, d2, r5, hl, hlen, Bool.false_eq_true, Bool.true_eq_false, or_self, if_false, JN_0, JN_1, JN_2, JN_3, JN_4, JN_5, JN_6, JN_7, JN_8, JN_9, JN_10, JN_11, JN_12, JN_13, JN_14, JN_15, JN_16, JN_17, JN_18, JN_19, JN_20, JN_21, JN_22, JN_23, JN_24, B1_s, B2_s, BN_s, CD_t, CD_f, GO_tt, GO_ft, GO_tf, GO_ff, GO_ut, GO_uf, GD2_tt, GD2_ft, GD2_tf, GD2_ff, pk_t, pk_f, nilA_p, nilA_i, fa_p, fd_a, ex_t, iadd_i, isub_i, imul_i, ieq_i, ine_i, ilt_i, ile_i, igt_i, ige_i, seq_s, sne_s, slt_s, lens_s, lenx_0, lenx_s, not_b, bb_e, bb_n, cv_i, pe_00, pe_0p, pe_p0, eqB_e, eqB_n, List.getElem?_cons_zero, List.getElem?_cons_succ, Nat.zero_add, Bool.not_true, Bool.not_false, decide_true, decide_false, Int.reduceBEq, Int.reduceBNe, Int.reduceLT, Int.reduceLE, Int.reduceGT, Int.reduceGE, Int.reduceNeg, BEq.rfl, bne_self_eq_false, ge_iff_le, gt_iff_lt]
      · have d2 : decide ((x.f.b.length : Int) < n) = false := decide_eq_false hn2
        obtain ⟨H1, L1, b1, b2, b3, b4⟩ := burn_c h
        have hcm : cutM m at' n = if burnB m = false then (11, burnM m) else (0, { burnM m with fs := setF at' ⟨x.f.nm, x.f.b.take n.toNat, min x.f.sure n.toNat⟩ m.fs }) := by
          unfold cutM; rw [if_neg (by simp [he]), r6]; simp only; rw [if_neg (by omega)]
        cases hB : burnB m with
        | false =>
          rw [hcm, if_pos hB]
          refine ⟨H1, L1, c_store_Store_Cut ?_, b2, b3⟩
          unfold s_store_Store_Cut
          simp only [h0, he, q1, q2, d1, d2, r5, hl, hlen, b1, hB, Bool.false_eq_true, Bool.true_eq_false, or_self, if_false, JN_0, JN_1, JN_2, JN_3, JN_4, JN_5, JN_6, JN_7, JN_8, JN_9, JN_10, JN_11, JN_12, JN_13, JN_14, JN_15, JN_16, JN_17, JN_18, JN_19, JN_20, JN_21, JN_22, JN_23, JN_24, B1_s, B2_s, BN_s, CD_t, CD_f, GO_tt, GO_ft, GO_tf, GO_ff, GO_ut, GO_uf, GD2_tt, GD2_ft, GD2_tf, GD2_ff, pk_t, pk_f, nilA_p, nilA_i, fa_p, fd_a, ex_t, iadd_i, isub_i, imul_i, ieq_i, ine_i, ilt_i, ile_i, igt_i, ige_i, seq_s, sne_s, slt_s, lens_s, lenx_0, lenx_s, not_b, bb_e, bb_n, cv_i, pe_00, pe_0p, pe_p0, eqB_e, eqB_n, List.getElem?_cons_zero, List.getElem?_cons_succ, Nat.zero_add, Bool.not_true, Bool.not_false, decide_true, decide_false, Int.reduceBEq, Int.reduceBNe, Int.reduceLT, Int.reduceLE, Int.reduceGT, Int.reduceGE, Int.reduceNeg, BEq.rfl, bne_self_eq_false, ge_iff_le, gt_iff_lt]
        | true =>
          rw [hcm, if_neg (by simp [hB])]
          obtain ⟨e1, e2, e3, e4, e5, e6⟩ := b4 hB
          rw [e1] at b2 b3
          obtain ⟨N, rfl⟩ := Int.eq_ofNat_of_zero_le (show 0 ≤ n by omega)
          obtain ⟨hg1, hg2⟩ := b2.file x hx
          have hl1 := hg1.ld (o := 0) rfl
          obtain ⟨sl, H2, H3, L3, c1, c2, c3, c3', c4, c5, c6, c7, c8, c9, c10, c11⟩ := b2.cut r1 (by rw [r2]; exact r3) (by rw [r2]; exact r4) (n := N) (s := min x.f.sure N) (by omega) (by omega)
          have hmin : (if (N : Int) < (x.f.sure : Int) then (N : Int) else (x.f.sure : Int)) = ((min x.f.sure N : Nat) : Int) := by split <;> omega
          refine ⟨H3, L3, c_store_Store_Cut ?_, ?_, b3.trans c7⟩
          · unfold s_store_Store_Cut
            simp only [h0, he, q1, q2, d1, d2, r5, hl, hlen, b1, hB, hl1, c1, c2, c3, c3', c4, min_i, hmin, c5, Bool.false_eq_true, Bool.true_eq_false, or_self, if_false, JN_0, JN_1, JN_2, JN_3, JN_4, JN_5, JN_6, JN_7, JN_8, JN_9, JN_10, JN_11, JN_12, JN_13, JN_14, JN_15, JN_16, JN_17, JN_18, JN_19, JN_20, JN_21, JN_22, JN_23, JN_24, B1_s, B2_s, BN_s, CD_t, CD_f, GO_tt, GO_ft, GO_tf, GO_ff, GO_ut, GO_uf, GD2_tt, GD2_ft, GD2_tf, GD2_ff, pk_t, pk_f, nilA_p, nilA_i, fa_p, fd_a, ex_t, iadd_i, isub_i, imul_i, ieq_i, ine_i, ilt_i, ile_i, igt_i, ige_i, seq_s, sne_s, slt_s, lens_s, lenx_0, lenx_s, not_b, bb_e, bb_n, cv_i, pe_00, pe_0p, pe_p0, eqB_e, eqB_n, List.getElem?_cons_zero, List.getElem?_cons_succ, Nat.zero_add, Bool.not_true, Bool.not_false, decide_true, decide_false, Int.reduceBEq, Int.reduceBNe, Int.reduceLT, Int.reduceLE, Int.reduceGT, Int.reduceGE, Int.reduceNeg, BEq.rfl, bne_self_eq_false, ge_iff_le, gt_iff_lt]
          · rw [e3, r2] at c6
            rw [Int.toNat_natCast, r2]; exact c6
  · have : cutM m at' n = (ofE m at', m) := by unfold cutM; rw [if_pos he]
    rw [this]
    refine ⟨H, L, c_store_Store_Cut ?_, h, Go'.refl _ _ _⟩
    unfold s_store_Store_Cut
    simp only [h0, ne_of_ofE he, JN_0, JN_1, JN_2, JN_3, JN_4, JN_5, JN_6, JN_7, JN_8, JN_9, JN_10, JN_11, JN_12, JN_13, JN_14, JN_15, JN_16, JN_17, JN_18, JN_19, JN_20, JN_21, JN_22, JN_23, JN_24, B1_s, B2_s, BN_s, CD_t, CD_f, GO_tt, GO_ft, GO_tf, GO_ff, GO_ut, GO_uf, GD2_tt, GD2_ft, GD2_tf, GD2_ff, pk_t, pk_f, nilA_p, nilA_i, fa_p, fd_a, ex_t, iadd_i, isub_i, imul_i, ieq_i, ine_i, ilt_i, ile_i, igt_i, ige_i, seq_s, sne_s, slt_s, lens_s, lenx_0, lenx_s, not_b, bb_e, bb_n, cv_i, pe_00, pe_0p, pe_p0, eqB_e, eqB_n, List.getElem?_cons_zero, List.getElem?_cons_succ, Nat.zero_add, Bool.not_true, Bool.not_false, decide_true, decide_false, Int.reduceBEq, Int.reduceBNe, Int.reduceLT, Int.reduceLE, Int.reduceGT, Int.reduceGE, Int.reduceNeg, BEq.rfl, bne_self_eq_false, ge_iff_le, gt_iff_lt]
/-- a file dropped -/
noncomputable def dropM (m : SM) (at' : List Nat) : Int × SM := if ofE m at' ≠ 0 then (ofE m at', m) else if burnB m = false then (11, burnM m) else (0, { burnM m with fs := delF at' m.fs })
theorem drop_c (h : St H p m L) (at' : List Nat) : ∃ H' L', cK (.func (.func 21) [] []) [.ptr p 0, .str at'] H = some (.int .i64 (dropM m at').1, H') ∧ St H' p (dropM m at').2 L' ∧ Go' p H L H' L' := by
  have h0 := of_c h at'
  by_cases he : ofE m at' = 0
  · obtain ⟨q1, q2, a, x, b, r1, r2, r3, r4, r5, r6, hx, hf⟩ := h.ofP he
    obtain ⟨H1, L1, b1, b2, b3, b4⟩ := burn_c h
    cases hB : burnB m with
    | false =>
      have : dropM m at' = (11, burnM m) := by unfold dropM; rw [if_neg (by simp [he]), if_pos hB]
      rw [this]
      refine ⟨H1, L1, c_store_Store_Drop ?_, b2, b3⟩
      unfold s_store_Store_Drop
      simp only [h0, he, q1, q2, b1, hB, Bool.false_eq_true, Bool.true_eq_false, or_self, if_false, JN_0, JN_1, JN_2, JN_3, JN_4, JN_5, JN_6, JN_7, JN_8, JN_9, JN_10, JN_11, JN_12, JN_13, JN_14, JN_15, JN_16, JN_17, JN_18, JN_19, JN_20, JN_21, JN_22, JN_23, JN_24, B1_s, B2_s, BN_s, CD_t, CD_f, GO_tt, GO_ft, GO_tf, GO_ff, GO_ut, GO_uf, GD2_tt, GD2_ft, GD2_tf, GD2_ff, pk_t, pk_f, nilA_p, nilA_i, fa_p, fd_a, ex_t, iadd_i, isub_i, imul_i, ieq_i, ine_i, ilt_i, ile_i, igt_i, ige_i, seq_s, sne_s, slt_s, lens_s, lenx_0, lenx_s, not_b, bb_e, bb_n, cv_i, pe_00, pe_0p, pe_p0, eqB_e, eqB_n, List.getElem?_cons_zero, List.getElem?_cons_succ, Nat.zero_add, Bool.not_true, Bool.not_false, decide_true, decide_false, Int.reduceBEq, Int.reduceBNe, Int.reduceLT, Int.reduceLE, Int.reduceGT, Int.reduceGE, Int.reduceNeg, BEq.rfl, bne_self_eq_false, ge_iff_le, gt_iff_lt]
    | true =>
      obtain ⟨e1, e2, e3, e4, e5, e6⟩ := b4 hB
      rw [e1] at b2 b3
      have hm1 := b2.ld_map
      obtain ⟨H2, d1, d2, d3, d4, d5, d6, d7⟩ := b2.delFile r1 (by rw [r2]; exact r3) (by rw [r2]; exact r4)
      rw [r2] at d1 d2
      rw [e3] at d2
      have : dropM m at' = (0, { burnM m with fs := delF at' m.fs }) := by unfold dropM; rw [if_neg (by simp [he]), if_neg (by simp [hB])]
      rw [this]
      refine ⟨H2, _, c_store_Store_Drop ?_, d2, b3.trans d3⟩
      unfold s_store_Store_Drop
      simp only [h0, he, q1, q2, b1, hB, hm1, d1, Bool.false_eq_true, Bool.true_eq_false, or_self, if_false, JN_0, JN_1, JN_2, JN_3, JN_4, JN_5, JN_6, JN_7, JN_8, JN_9, JN_10, JN_11, JN_12, JN_13, JN_14, JN_15, JN_16, JN_17, JN_18, JN_19, JN_20, JN_21, JN_22, JN_23, JN_24, B1_s, B2_s, BN_s, CD_t, CD_f, GO_tt, GO_ft, GO_tf, GO_ff, GO_ut, GO_uf, GD2_tt, GD2_ft, GD2_tf, GD2_ff, pk_t, pk_f, nilA_p, nilA_i, fa_p, fd_a, ex_t, iadd_i, isub_i, imul_i, ieq_i, ine_i, ilt_i, ile_i, igt_i, ige_i, seq_s, sne_s, slt_s, lens_s, lenx_0, lenx_s, not_b, bb_e, bb_n, cv_i, pe_00, pe_0p, pe_p0, eqB_e, eqB_n, List.getElem?_cons_zero, List.getElem?_cons_succ, Nat.zero_add, Bool.not_true, Bool.not_false, decide_true, decide_false, Int.reduceBEq, Int.reduceBNe, Int.reduceLT, Int.reduceLE, Int.reduceGT, Int.reduceGE, Int.reduceNeg, BEq.rfl, bne_self_eq_false, ge_iff_le, gt_iff_lt]
  · have : dropM m at' = (ofE m at', m) := by unfold dropM; rw [if_pos he]
    rw [this]
    refine ⟨H, L, c_store_Store_Drop ?_, h, Go'.refl _ _ _⟩
    unfold s_store_Store_Drop
    simp only [h0, ne_of_ofE he, JN_0, JN_1, JN_2, JN_3, JN_4, JN_5, JN_6, JN_7, JN_8, JN_9, JN_10, JN_11, JN_12, JN_13, JN_14, JN_15, JN_16, JN_17, JN_18, JN_19, JN_20, JN_21, JN_22, JN_23, JN_24, B1_s, B2_s, BN_s, CD_t, CD_f, GO_tt, GO_ft, GO_tf, GO_ff, GO_ut, GO_uf, GD2_tt, GD2_ft, GD2_tf, GD2_ff, pk_t, pk_f, nilA_p, nilA_i, fa_p, fd_a, ex_t, iadd_i, isub_i, imul_i, ieq_i, ine_i, ilt_i, ile_i, igt_i, ige_i, seq_s, sne_s, slt_s, lens_s, lenx_0, lenx_s, not_b, bb_e, bb_n, cv_i, pe_00, pe_0p, pe_p0, eqB_e, eqB_n, List.getElem?_cons_zero, List.getElem?_cons_succ, Nat.zero_add, Bool.not_true, Bool.not_false, decide_true, decide_false, Int.reduceBEq, Int.reduceBNe, Int.reduceLT, Int.reduceLE, Int.reduceGT, Int.reduceGE, Int.reduceNeg, BEq.rfl, bne_self_eq_false, ge_iff_le, gt_iff_lt]
/-- bytes put behind a file -/
noncomputable def appM (m : SM) (at' : List Nat) (b : List Nat) : Int × SM := if ofE m at' ≠ 0 ∧ ofE m at' ≠ 4 then (ofE m at', m) else
  if (m.room : Int) - sumB m.fs < b.length ∨ ((look m at').isNone = true ∧ 64 ≤ m.fs.length) then (6, m) else if burnB m = false then (11, burnM m) else
  (0, { burnM m with fs := match look m at' with | some f => setF at' ⟨f.nm, f.b ++ b, f.sure⟩ m.fs | none => m.fs ++ [⟨at', b, 0⟩] })
theorem app_c (h : St H p m L) (at' : List Nat) {y : AV} {b : List Nat} (hy : Rw H 1 y (bs b)) (hb : ∀ c ∈ b, c < 256) (hyd : ∀ j ∈ rid y, j ∉ foot p L) :
    ∃ H' L', cK (.func (.func 11) [] []) [.ptr p 0, .str at', y] H = some (.int .i64 (appM m at' b).1, H') ∧ St H' p (appM m at' b).2 L' ∧ Go' p H L H' L' := by
  have h0 := of_c h at'
  have hfree := free_c h
  have hylen := hy.len1
  rw [bs_len] at hylen
  have hroom := h.ok.room
  have hsum := h.ok.sum
  have hlenm := lenm_m h.map
  have hmap := h.ld_map
  have hcs : (L.cs.map FC.me).length = m.fs.length := by rw [h.fs, List.length_map, List.length_map]
  rw [hcs] at hlenm
  by_cases he2 : ofE m at' ≠ 0 ∧ ofE m at' ≠ 4
  · have : appM m at' b = (ofE m at', m) := by unfold appM; rw [if_pos he2]
    rw [this]
    refine ⟨H, L, c_store_Store_Append ?_, h, Go'.refl _ _ _⟩
    unfold s_store_Store_Append
    have d1 : (ofE m at' != 0) = true := by simpa using he2.1
    have d2 : (ofE m at' != 4) = true := by simpa using he2.2
    simp only [h0, d1, d2, JN_0, JN_1, JN_2, JN_3, JN_4, JN_5, JN_6, JN_7, JN_8, JN_9, JN_10, JN_11, JN_12, JN_13, JN_14, JN_15, JN_16, JN_17, JN_18, JN_19, JN_20, JN_21, JN_22, JN_23, JN_24, B1_s, B2_s, BN_s, CD_t, CD_f, GO_tt, GO_ft, GO_tf, GO_ff, GO_ut, GO_uf, GD2_tt, GD2_ft, GD2_tf, GD2_ff, pk_t, pk_f, nilA_p, nilA_i, fa_p, fd_a, ex_t, iadd_i, isub_i, imul_i, ieq_i, ine_i, ilt_i, ile_i, igt_i, ige_i, seq_s, sne_s, slt_s, lens_s, lenx_0, lenx_s, not_b, bb_e, bb_n, cv_i, pe_00, pe_0p, pe_p0, eqB_e, eqB_n, List.getElem?_cons_zero, List.getElem?_cons_succ, Nat.zero_add, Bool.not_true, Bool.not_false, decide_true, decide_false, Int.reduceBEq, Int.reduceBNe, Int.reduceLT, Int.reduceLE, Int.reduceGT, Int.reduceGE, Int.reduceNeg, BEq.rfl, bne_self_eq_false, ge_iff_le, gt_iff_lt]
  · -- the file is there, or is none
    have hcase : (ofE m at' = 0 ∧ m.off = false ∧ okName at' = true ∧ ∃ a x c, L.cs = a ++ x :: c ∧ x.f.nm = at' ∧ (∀ y ∈ a, y.f.nm ≠ at') ∧ (∀ y ∈ c, y.f.nm ≠ at') ∧ fp L at' = .ptr x.id 0 ∧ look m at' = some x.f ∧ x ∈ L.cs ∧ x.f ∈ m.fs) ∨
        (ofE m at' = 4 ∧ m.off = false ∧ okName at' = true ∧ look m at' = none ∧ fp L at' = .ptr0 ∧ ∀ y ∈ L.cs, y.f.nm ≠ at') := by
      rcases ofE_cases m at' with ⟨q, _⟩ | ⟨q, _⟩ | ⟨q, q1, q2, q3⟩ | ⟨q, _⟩
      · rw [q] at he2; simp at he2
      · rw [q] at he2; simp at he2
      · rcases h.lookC at' with ⟨r1, r2, r3⟩ | ⟨a, x, c, r1, r2, r3, r4, r5, r6⟩
        · exact .inr ⟨q, q1, q2, q3, r1, r3⟩
        · rw [q3] at r6; cases r6
      · obtain ⟨q1, q2, r⟩ := h.ofP q
        exact .inl ⟨q, q1, q2, r⟩
    have hE : (ofE m at' != 0) = true → (ofE m at' != 4) = false := by
      intro q
      rcases hcase with ⟨e, _⟩ | ⟨e, _⟩
      · rw [e] at q; cases q
      · rw [e]; rfl
    have hfirst : ∀ k : AV → R, B1 (ine (.int .i64 (ofE m at')) (.int .i64 0)) (fun v13 => GO v13 true (fun k14 => k14 (.int .i64 (ofE m at')) H) (fun v15 h16 => GO v13 true (fun k17 => B1 (ine v15 (.int .i64 4)) fun v18 => k17 v18 h16) (fun v19 h20 => B1 (pk v13 v19 (.bool false)) fun v21 => k v21) h16) H) = k (.bool false) := by
      intro k
      cases d : (ofE m at' != 0) with
      | false => simp only [d, JN_0, JN_1, JN_2, JN_3, JN_4, JN_5, JN_6, JN_7, JN_8, JN_9, JN_10, JN_11, JN_12, JN_13, JN_14, JN_15, JN_16, JN_17, JN_18, JN_19, JN_20, JN_21, JN_22, JN_23, JN_24, B1_s, B2_s, BN_s, CD_t, CD_f, GO_tt, GO_ft, GO_tf, GO_ff, GO_ut, GO_uf, GD2_tt, GD2_ft, GD2_tf, GD2_ff, pk_t, pk_f, nilA_p, nilA_i, fa_p, fd_a, ex_t, iadd_i, isub_i, imul_i, ieq_i, ine_i, ilt_i, ile_i, igt_i, ige_i, seq_s, sne_s, slt_s, lens_s, lenx_0, lenx_s, not_b, bb_e, bb_n, cv_i, pe_00, pe_0p, pe_p0, eqB_e, eqB_n, List.getElem?_cons_zero, List.getElem?_cons_succ, Nat.zero_add, Bool.not_true, Bool.not_false, decide_true, decide_false, Int.reduceBEq, Int.reduceBNe, Int.reduceLT, Int.reduceLE, Int.reduceGT, Int.reduceGE, Int.reduceNeg, BEq.rfl, bne_self_eq_false, ge_iff_le, gt_iff_lt]
      | true => simp only [d, hE d, JN_0, JN_1, JN_2, JN_3, JN_4, JN_5, JN_6, JN_7, JN_8, JN_9, JN_10, JN_11, JN_12, JN_13, JN_14, JN_15, JN_16, JN_17, JN_18, JN_19, JN_20, JN_21, JN_22, JN_23, JN_24, B1_s, B2_s, BN_s, CD_t, CD_f, GO_tt, GO_ft, GO_tf, GO_ff, GO_ut, GO_uf, GD2_tt, GD2_ft, GD2_tf, GD2_ff, pk_t, pk_f, nilA_p, nilA_i, fa_p, fd_a, ex_t, iadd_i, isub_i, imul_i, ieq_i, ine_i, ilt_i, ile_i, igt_i, ige_i, seq_s, sne_s, slt_s, lens_s, lenx_0, lenx_s, not_b, bb_e, bb_n, cv_i, pe_00, pe_0p, pe_p0, eqB_e, eqB_n, List.getElem?_cons_zero, List.getElem?_cons_succ, Nat.zero_add, Bool.not_true, Bool.not_false, decide_true, decide_false, Int.reduceBEq, Int.reduceBNe, Int.reduceLT, Int.reduceLE, Int.reduceGT, Int.reduceGE, Int.reduceNeg, BEq.rfl, bne_self_eq_false, ge_iff_le, gt_iff_lt]
    have hp0 : (if m.off = true ∨ okName at' = false then AV.ptr0 else fp L at') = fp L at' := by
      rcases hcase with ⟨_, q1, q2, _⟩ | ⟨_, q1, q2, _⟩ <;> simp [q1, q2]
    rw [hp0] at h0
    by_cases hbig : (m.room : Int) - sumB m.fs < b.length
    · have : appM m at' b = (6, m) := by unfold appM; rw [if_neg he2, if_pos (.inl hbig)]
      rw [this]
      refine ⟨H, L, c_store_Store_Append ?_, h, Go'.refl _ _ _⟩
      unfold s_store_Store_Append
      have d3 : decide ((m.room : Int) - sumB m.fs < b.length) = true := decide_eq_true hbig
      cases d : (ofE m at' != 0) with
      | false => simp only [h0, d, hylen, hfree, d3, JN_0, JN_1, JN_2, JN_3, JN_4, JN_5, JN_6, JN_7, JN_8, JN_9, JN_10, JN_11, JN_12, JN_13, JN_14, JN_15, JN_16, JN_17, JN_18, JN_19, JN_20, JN_21, JN_22, JN_23, JN_24, B1_s, B2_s, BN_s, CD_t, CD_f, GO_tt, GO_ft, GO_tf, GO_ff, GO_ut, GO_uf, GD2_tt, GD2_ft, GD2_tf, GD2_ff, pk_t, pk_f, nilA_p, nilA_i, fa_p, fd_a, ex_t, iadd_i, isub_i, imul_i, ieq_i, ine_i, ilt_i, ile_i, igt_i, ige_i, seq_s, sne_s, slt_s, lens_s, lenx_0, lenx_s, not_b, bb_e, bb_n, cv_i, pe_00, pe_0p, pe_p0, eqB_e, eqB_n, List.getElem?_cons_zero, List.getElem?_cons_succ, Nat.zero_add, Bool.not_true, Bool.not_false, decide_true, decide_false, Int.reduceBEq, Int.reduceBNe, Int.reduceLT, Int.reduceLE, Int.reduceGT, Int.reduceGE, Int.reduceNeg, BEq.rfl, bne_self_eq_false, ge_iff_le, gt_iff_lt]
      | true => simp only [h0, d, hE d, hylen, hfree, d3, JN_0, JN_1, JN_2, JN_3, JN_4, JN_5, JN_6, JN_7, JN_8, JN_9, JN_10, JN_11, JN_12, JN_13, JN_14, JN_15, JN_16, JN_17, JN_18, JN_19, JN_20, JN_21, JN_22, JN_23, JN_24, B1_s, B2_s, BN_s, CD_t, CD_f, GO_tt, GO_ft, GO_tf, GO_ff, GO_ut, GO_uf, GD2_tt, GD2_ft, GD2_tf, GD2_ff, pk_t, pk_f, nilA_p, nilA_i, fa_p, fd_a, ex_t, iadd_i, isub_i, imul_i, ieq_i, ine_i, ilt_i, ile_i, igt_i, ige_i, seq_s, sne_s, slt_s, lens_s, lenx_0, lenx_s, not_b, bb_e, bb_n, cv_i, pe_00, pe_0p, pe_p0, eqB_e, eqB_n, List.getElem?_cons_zero, List.getElem?_cons_succ, Nat.zero_add, Bool.not_true, Bool.not_false, decide_true, decide_false, Int.reduceBEq, Int.reduceBNe, Int.reduceLT, Int.reduceLE, Int.reduceGT, Int.reduceGE, Int.reduceNeg, BEq.rfl, bne_self_eq_false, ge_iff_le, gt_iff_lt]
    · have d3 : decide ((m.room : Int) - sumB m.fs < b.length) = false := decide_eq_false hbig
      obtain ⟨H1, L1, b1, b2, b3, b4⟩ := burn_c h
      rcases hcase with ⟨e, q1, q2, a, x, c, r1, r2, r3, r4, r5, r6, hx, hf⟩ | ⟨e, q1, q2, r6, r5, r3⟩
      · rw [r5, e] at h0
        have hcm : appM m at' b = if burnB m = false then (11, burnM m) else (0, { burnM m with fs := setF at' ⟨x.f.nm, x.f.b ++ b, x.f.sure⟩ m.fs }) := by
          unfold appM; rw [if_neg he2, if_neg (by simp [r6]; omega), r6]
        cases hB : burnB m with
        | false =>
          rw [hcm, if_pos hB]
          refine ⟨H1, L1, c_store_Store_Append ?_, b2, b3⟩
          unfold s_store_Store_Append
          simp only [h0, hylen, hfree, d3, b1, hB, JN_0, JN_1, JN_2, JN_3, JN_4, JN_5, JN_6, JN_7, JN_8, JN_9, JN_10, JN_11, JN_12, JN_13, JN_14, JN_15, JN_16, JN_17, JN_18, JN_19, JN_20, JN_21, JN_22, JN_23, JN_24, B1_s, B2_s, BN_s, CD_t, CD_f, GO_tt, GO_ft, GO_tf, GO_ff, GO_ut, GO_uf, GD2_tt, GD2_ft, GD2_tf, GD2_ff, pk_t, pk_f, nilA_p, nilA_i, fa_p, fd_a, ex_t, iadd_i, isub_i, imul_i, ieq_i, ine_i, ilt_i, ile_i, igt_i, ige_i, seq_s, sne_s, slt_s, lens_s, lenx_0, lenx_s, not_b, bb_e, bb_n, cv_i, pe_00, pe_0p, pe_p0, eqB_e, eqB_n, List.getElem?_cons_zero, List.getElem?_cons_succ, Nat.zero_add, Bool.not_true, Bool.not_false, decide_true, decide_false, Int.reduceBEq, Int.reduceBNe, Int.reduceLT, Int.reduceLE, Int.reduceGT, Int.reduceGE, Int.reduceNeg, BEq.rfl, bne_self_eq_false, ge_iff_le, gt_iff_lt]
        | true =>
          rw [hcm, if_neg (by simp [hB])]
          obtain ⟨e1, e2, e3, e4, e5, e6⟩ := b4 hB
          rw [e1] at b2 b3
          obtain ⟨hg1, hg2⟩ := b2.file x hx
          have hl1 := hg1.ld (o := 0) rfl
          have hy1 := hy.out e2 fun j hj q => hyd j hj (by rw [List.mem_singleton.1 q]; exact St.mem_p)
          have hlen2 : (bs x.f.b).length + (bs b).length ≤ 16777216 := by
            rw [bs_len, bs_len]
            have := len_le hf; omega
          obtain ⟨s', H2, a1, a2, a3, a4⟩ := append_ok (z := [.int .u8 0]) hg2 hy1 (bs_one b) (by omega) hlen2
          rw [← bs_app] at a2
          obtain ⟨H3, p1, p2, p3, p4⟩ := b2.put0 hx a3 a2 a4
          have hld2 : ld (.ptr x.id 0) H1 = some x.sl := hl1
          have hset := b2.setFile (f := ⟨x.f.nm, x.f.b ++ b, x.f.sure⟩) r1 (by rw [r2]; exact r3) (by rw [r2]; exact r4) rfl p3 (fun j hj => hj) p2 p4 a4 (rid_nd _) (by have := h.ok.sure x.f hf; simp; omega) (fun k hk => (List.mem_append.1 hk).elim (h.ok.byte x.f hf k) (hb k)) (by
            have := b2.sum_set r1 (by rw [r2]; exact r3) (by rw [r2]; exact r4) ⟨x.f.nm, x.f.b ++ b, x.f.sure⟩
            rw [e3] at this ⊢
            rw [e4]
            simp only [List.length_append] at this; omega)
          obtain ⟨s1, s2⟩ := hset
          rw [e3, r2] at s1
          refine ⟨H3, _, c_store_Store_Append ?_, by rw [r2]; exact s1, b3.trans s2⟩
          unfold s_store_Store_Append
          simp only [h0, hylen, hfree, d3, b1, hB, hl1, a1, p1, JN_0, JN_1, JN_2, JN_3, JN_4, JN_5, JN_6, JN_7, JN_8, JN_9, JN_10, JN_11, JN_12, JN_13, JN_14, JN_15, JN_16, JN_17, JN_18, JN_19, JN_20, JN_21, JN_22, JN_23, JN_24, B1_s, B2_s, BN_s, CD_t, CD_f, GO_tt, GO_ft, GO_tf, GO_ff, GO_ut, GO_uf, GD2_tt, GD2_ft, GD2_tf, GD2_ff, pk_t, pk_f, nilA_p, nilA_i, fa_p, fd_a, ex_t, iadd_i, isub_i, imul_i, ieq_i, ine_i, ilt_i, ile_i, igt_i, ige_i, seq_s, sne_s, slt_s, lens_s, lenx_0, lenx_s, not_b, bb_e, bb_n, cv_i, pe_00, pe_0p, pe_p0, eqB_e, eqB_n, List.getElem?_cons_zero, List.getElem?_cons_succ, Nat.zero_add, Bool.not_true, Bool.not_false, decide_true, decide_false, Int.reduceBEq, Int.reduceBNe, Int.reduceLT, Int.reduceLE, Int.reduceGT, Int.reduceGE, Int.reduceNeg, BEq.rfl, bne_self_eq_false, ge_iff_le, gt_iff_lt]
      · rw [r5, e] at h0
        by_cases hmany : 64 ≤ m.fs.length
        · have : appM m at' b = (6, m) := by unfold appM; rw [if_neg he2, if_pos (.inr ⟨by rw [r6]; rfl, hmany⟩)]
          rw [this]
          refine ⟨H, L, c_store_Store_Append ?_, h, Go'.refl _ _ _⟩
          unfold s_store_Store_Append
          have d4 : decide ((64 : Int) ≤ (m.fs.length : Int)) = true := decide_eq_true (by omega)
          simp only [h0, hylen, hfree, d3, hmap, hlenm, d4, JN_0, JN_1, JN_2, JN_3, JN_4, JN_5, JN_6, JN_7, JN_8, JN_9, JN_10, JN_11, JN_12, JN_13, JN_14, JN_15, JN_16, JN_17, JN_18, JN_19, JN_20, JN_21, JN_22, JN_23, JN_24, B1_s, B2_s, BN_s, CD_t, CD_f, GO_tt, GO_ft, GO_tf, GO_ff, GO_ut, GO_uf, GD2_tt, GD2_ft, GD2_tf, GD2_ff, pk_t, pk_f, nilA_p, nilA_i, fa_p, fd_a, ex_t, iadd_i, isub_i, imul_i, ieq_i, ine_i, ilt_i, ile_i, igt_i, ige_i, seq_s, sne_s, slt_s, lens_s, lenx_0, lenx_s, not_b, bb_e, bb_n, cv_i, pe_00, pe_0p, pe_p0, eqB_e, eqB_n, List.getElem?_cons_zero, List.getElem?_cons_succ, Nat.zero_add, Bool.not_true, Bool.not_false, decide_true, decide_false, Int.reduceBEq, Int.reduceBNe, Int.reduceLT, Int.reduceLE, Int.reduceGT, Int.reduceGE, Int.reduceNeg, BEq.rfl, bne_self_eq_false, ge_iff_le, gt_iff_lt]
        · have d4 : decide ((64 : Int) ≤ (m.fs.length : Int)) = false := decide_eq_false (by omega)
          have hcm : appM m at' b = if burnB m = false then (11, burnM m) else (0, { burnM m with fs := m.fs ++ [⟨at', b, 0⟩] }) := by
            unfold appM; rw [if_neg he2, if_neg (by rw [r6]; simp; omega), r6]
          cases hB : burnB m with
          | false =>
            rw [hcm, if_pos hB]
            refine ⟨H1, L1, c_store_Store_Append ?_, b2, b3⟩
            unfold s_store_Store_Append
            simp only [h0, hylen, hfree, d3, hmap, hlenm, d4, b1, hB, JN_0, JN_1, JN_2, JN_3, JN_4, JN_5, JN_6, JN_7, JN_8, JN_9, JN_10, JN_11, JN_12, JN_13, JN_14, JN_15, JN_16, JN_17, JN_18, JN_19, JN_20, JN_21, JN_22, JN_23, JN_24, B1_s, B2_s, BN_s, CD_t, CD_f, GO_tt, GO_ft, GO_tf, GO_ff, GO_ut, GO_uf, GD2_tt, GD2_ft, GD2_tf, GD2_ff, pk_t, pk_f, nilA_p, nilA_i, fa_p, fd_a, ex_t, iadd_i, isub_i, imul_i, ieq_i, ine_i, ilt_i, ile_i, igt_i, ige_i, seq_s, sne_s, slt_s, lens_s, lenx_0, lenx_s, not_b, bb_e, bb_n, cv_i, pe_00, pe_0p, pe_p0, eqB_e, eqB_n, List.getElem?_cons_zero, List.getElem?_cons_succ, Nat.zero_add, Bool.not_true, Bool.not_false, decide_true, decide_false, Int.reduceBEq, Int.reduceBNe, Int.reduceLT, Int.reduceLE, Int.reduceGT, Int.reduceGE, Int.reduceNeg, BEq.rfl, bne_self_eq_false, ge_iff_le, gt_iff_lt]
          | true =>
            rw [hcm, if_neg (by simp [hB])]
            obtain ⟨e1, e2, e3, e4, e5, e6⟩ := b4 hB
            rw [e1] at b2 b3
            have hfl : fl [.slice0, (.int .i64 0)] [] = some [AV.slice0, .int .i64 ((0 : Nat) : Int)] := rfl
            obtain ⟨H2, n1, n2, n3, n4⟩ := bx_ok H1 66 (.agg [AV.slice0, .int .i64 ((0 : Nat) : Int)]) [AV.slice0, .int .i64 ((0 : Nat) : Int)] rfl (by simp)
            have b5 := b2.out n3 fun j _ q => by cases q
            have hlt := b2.lt
            have hmap2 := b5.ld_map
            have hne : ∀ y ∈ L.cs, y.f.nm ≠ (⟨at', [], 0⟩ : Fl).nm := r3
            obtain ⟨H3, f1, f2, f3⟩ := b5.addFile (id := H1.next) (sl := .slice0) (f := ⟨at', [], 0⟩) hne ⟨_, n2⟩ .nil (fun j hj => by
                simp only [FC.ids, rid, List.mem_singleton] at hj
                intro q
                have := hlt j q; omega) (by simp [FC.ids, rid]) (by simp) (fun c hc => by cases hc) (by simp only [List.length_nil]; rw [e3, e4]; omega) q2 (by rw [e3]; omega)
            have hx' : (⟨H1.next, .slice0, L.clk, ⟨at', [], 0⟩⟩ : FC) ∈ L.cs ++ [⟨H1.next, .slice0, L.clk, ⟨at', [], 0⟩⟩] := by simp
            obtain ⟨hg1, hg2⟩ := f2.file _ hx'
            have hl1 := hg1.ld (o := 0) rfl
            have hnextlt : ∀ j ∈ rid y, j < H1.next := fun j hj => Nat.lt_of_lt_of_le (hy.lt j hj) e2.1
            have hy1 : Rw H3 1 y (bs b) := ((hy.out e2 fun j hj q => hyd j hj (by rw [List.mem_singleton.1 q]; exact St.mem_p)).out n3 fun j _ q => by cases q).out f3 fun j hj q => hyd j hj (by rw [List.mem_singleton.1 q]; exact St.mem_mid)
            have hlen2 : ([] : List AV).length + (bs b).length ≤ 16777216 := by
              rw [bs_len]; simp only [List.length_nil]; omega
            obtain ⟨s', H4, a1, a2, a3, a4⟩ := append_ok (z := [.int .u8 0]) (l := []) hg2 hy1 (bs_one b) (by omega) hlen2
            rw [List.nil_append] at a2
            obtain ⟨H5, p1, p2, p3, p4⟩ := f2.put0 hx' a3 a2 a4
            have hsplit : L.cs ++ [(⟨H1.next, .slice0, L.clk, ⟨at', [], 0⟩⟩ : FC)] = L.cs ++ (⟨H1.next, .slice0, L.clk, ⟨at', [], 0⟩⟩ : FC) :: [] := rfl
            have hset := f2.setFile (f := ⟨at', b, 0⟩) hsplit r3 (fun y hy => by cases hy) rfl p3 (fun j hj => hj) p2 p4 a4 (rid_nd _) (Nat.zero_le _) hb (by
              have := f2.sum_set hsplit r3 (fun y hy => by cases hy) ⟨at', b, 0⟩
              simp only [sumB_app, sumB_cons, List.length_nil] at this ⊢
              rw [e3] at this ⊢
              rw [e4]
              have : sumB ([] : List Fl) = 0 := rfl
              omega)
            obtain ⟨s1, s2⟩ := hset
            have hfs : setF at' ⟨at', b, 0⟩ ((burnM m).fs ++ [(⟨at', [], 0⟩ : Fl)]) = m.fs ++ [⟨at', b, 0⟩] := by
              rw [e3]
              have : m.fs ++ [(⟨at', [], 0⟩ : Fl)] = (L.cs ++ (⟨H1.next, .slice0, L.clk, ⟨at', [], 0⟩⟩ : FC) :: []).map (·.f) := by rw [h.fs, List.map_append]; rfl
              rw [this, setF_split (at' := at') (x := ⟨H1.next, .slice0, L.clk, ⟨at', [], 0⟩⟩) (b := []) rfl r3 (fun y hy => by cases hy), h.fs]; rfl
            refine ⟨H5, _, c_store_Store_Append ?_, by
              have := s1
              simp only at this
              rw [hfs] at this
              exact this, ?_⟩
            · unfold s_store_Store_Append
              simp only [h0, hylen, hfree, d3, hmap, hlenm, d4, b1, hB, hfl, n1, hmap2, f1, hl1, a1, p1, JN_0, JN_1, JN_2, JN_3, JN_4, JN_5, JN_6, JN_7, JN_8, JN_9, JN_10, JN_11, JN_12, JN_13, JN_14, JN_15, JN_16, JN_17, JN_18, JN_19, JN_20, JN_21, JN_22, JN_23, JN_24, B1_s, B2_s, BN_s, CD_t, CD_f, GO_tt, GO_ft, GO_tf, GO_ff, GO_ut, GO_uf, GD2_tt, GD2_ft, GD2_tf, GD2_ff, pk_t, pk_f, nilA_p, nilA_i, fa_p, fd_a, ex_t, iadd_i, isub_i, imul_i, ieq_i, ine_i, ilt_i, ile_i, igt_i, ige_i, seq_s, sne_s, slt_s, lens_s, lenx_0, lenx_s, not_b, bb_e, bb_n, cv_i, pe_00, pe_0p, pe_p0, eqB_e, eqB_n, List.getElem?_cons_zero, List.getElem?_cons_succ, Nat.zero_add, Bool.not_true, Bool.not_false, decide_true, decide_false, Int.reduceBEq, Int.reduceBNe, Int.reduceLT, Int.reduceLE, Int.reduceGT, Int.reduceGE, Int.reduceNeg, BEq.rfl, bne_self_eq_false, ge_iff_le, gt_iff_lt]
            · have g1 : Go' p H1 L H3 { L with cs := L.cs ++ [⟨H1.next, .slice0, L.clk, ⟨at', [], 0⟩⟩], clk := L.clk + 1 } := by
                refine ⟨(n3.mono fun j hj => by cases hj).trans (f3.mono fun j hj => by rw [List.mem_singleton.1 hj]; exact St.mem_mid), fun j hj => ?_⟩
                unfold foot at hj
                rw [List.flatMap_append] at hj
                rcases List.mem_cons.1 hj with rfl | hj
                · exact .inl St.mem_p
                rcases List.mem_cons.1 hj with rfl | hj
                · exact .inl St.mem_mid
                rcases List.mem_append.1 hj with hj | hj
                · exact .inl (St.mem_keep hj)
                rcases List.mem_append.1 hj with hj | hj
                · obtain ⟨z, hz, hj⟩ := List.mem_flatMap.1 hj
                  exact .inl (St.mem_file hz hj)
                · simp only [List.flatMap_cons, List.flatMap_nil, List.append_nil, FC.ids, rid, List.mem_singleton] at hj
                  exact .inr (by omega)
              exact (b3.trans g1).trans s2
end
section
variable {H : Hp} {p : Nat} {m : SM} {L : Lay}
/-- a file by another name -/
def putF (f : Fl) (fs : List Fl) : List Fl := if (fs.find? (fun g => g.nm == f.nm)).isSome = true then setF f.nm f fs else fs ++ [f]
noncomputable def swapM (m : SM) (a b : List Nat) : Int × SM := if ofE m a = 11 then (11, m) else if okName b = false then (1, m) else if ofE m a ≠ 0 then (ofE m a, m) else if burnB m = false then (11, burnM m) else
  match look m a with | some f => (0, { burnM m with fs := putF ⟨b, f.b, f.b.length⟩ (delF a m.fs) }) | none => (0, m)
theorem swap_c (h : St H p m L) (at' to' : List Nat) : ∃ H' L', cK (.func (.func 20) [] []) [.ptr p 0, .str at', .str to'] H = some (.int .i64 (swapM m at' to').1, H') ∧ St H' p (swapM m at' to').2 L' ∧ Go' p H L H' L' := by
  have h0 := of_c h at'
  have hn := name_c to' H
  by_cases he11 : ofE m at' = 11
  · have : swapM m at' to' = (11, m) := by unfold swapM; rw [if_pos he11]
    rw [this]
    refine ⟨H, L, c_store_Store_Swap ?_, h, Go'.refl _ _ _⟩
    unfold s_store_Store_Swap
    simp only [h0, he11, JN_0, JN_1, JN_2, JN_3, JN_4, JN_5, JN_6, JN_7, JN_8, JN_9, JN_10, JN_11, JN_12, JN_13, JN_14, JN_15, JN_16, JN_17, JN_18, JN_19, JN_20, JN_21, JN_22, JN_23, JN_24, B1_s, B2_s, BN_s, CD_t, CD_f, GO_tt, GO_ft, GO_tf, GO_ff, GO_ut, GO_uf, GD2_tt, GD2_ft, GD2_tf, GD2_ff, pk_t, pk_f, nilA_p, nilA_i, fa_p, fd_a, ex_t, iadd_i, isub_i, imul_i, ieq_i, ine_i, ilt_i, ile_i, igt_i, ige_i, seq_s, sne_s, slt_s, lens_s, lenx_0, lenx_s, not_b, bb_e, bb_n, cv_i, pe_00, pe_0p, pe_p0, eqB_e, eqB_n, List.getElem?_cons_zero, List.getElem?_cons_succ, Nat.zero_add, Bool.not_true, Bool.not_false, decide_true, decide_false, Int.reduceBEq, Int.reduceBNe, Int.reduceLT, Int.reduceLE, Int.reduceGT, Int.reduceGE, Int.reduceNeg, BEq.rfl, bne_self_eq_false, ge_iff_le, gt_iff_lt]
  have d11 : (ofE m at' == 11) = false := by simpa using he11
  cases hok : okName to' with
  | false =>
    have : swapM m at' to' = (1, m) := by unfold swapM; rw [if_neg he11, if_pos hok]
    rw [this]
    refine ⟨H, L, c_store_Store_Swap ?_, h, Go'.refl _ _ _⟩
    unfold s_store_Store_Swap
    simp only [h0, d11, hn, hok, JN_0, JN_1, JN_2, JN_3, JN_4, JN_5, JN_6, JN_7, JN_8, JN_9, JN_10, JN_11, JN_12, JN_13, JN_14, JN_15, JN_16, JN_17, JN_18, JN_19, JN_20, JN_21, JN_22, JN_23, JN_24, B1_s, B2_s, BN_s, CD_t, CD_f, GO_tt, GO_ft, GO_tf, GO_ff, GO_ut, GO_uf, GD2_tt, GD2_ft, GD2_tf, GD2_ff, pk_t, pk_f, nilA_p, nilA_i, fa_p, fd_a, ex_t, iadd_i, isub_i, imul_i, ieq_i, ine_i, ilt_i, ile_i, igt_i, ige_i, seq_s, sne_s, slt_s, lens_s, lenx_0, lenx_s, not_b, bb_e, bb_n, cv_i, pe_00, pe_0p, pe_p0, eqB_e, eqB_n, List.getElem?_cons_zero, List.getElem?_cons_succ, Nat.zero_add, Bool.not_true, Bool.not_false, decide_true, decide_false, Int.reduceBEq, Int.reduceBNe, Int.reduceLT, Int.reduceLE, Int.reduceGT, Int.reduceGE, Int.reduceNeg, BEq.rfl, bne_self_eq_false, ge_iff_le, gt_iff_lt]
  | true =>
  by_cases he : ofE m at' = 0
  · obtain ⟨q1, q2, a, x, b, r1, r2, r3, r4, r5, r6, hx, hf⟩ := h.ofP he
    obtain ⟨H1, L1, b1, b2, b3, b4⟩ := burn_c h
    cases hB : burnB m with
    | false =>
      have : swapM m at' to' = (11, burnM m) := by unfold swapM; rw [if_neg he11, if_neg (by simp [hok]), if_neg (by simp [he]), if_pos hB]
      rw [this]
      refine ⟨H1, L1, c_store_Store_Swap ?_, b2, b3⟩
      unfold s_store_Store_Swap
      simp only [h0, he, q1, q2, hn, hok, b1, hB, Bool.false_eq_true, Bool.true_eq_false, or_self, if_false, JN_0, JN_1, JN_2, JN_3, JN_4, JN_5, JN_6, JN_7, JN_8, JN_9, JN_10, JN_11, JN_12, JN_13, JN_14, JN_15, JN_16, JN_17, JN_18, JN_19, JN_20, JN_21, JN_22, JN_23, JN_24, B1_s, B2_s, BN_s, CD_t, CD_f, GO_tt, GO_ft, GO_tf, GO_ff, GO_ut, GO_uf, GD2_tt, GD2_ft, GD2_tf, GD2_ff, pk_t, pk_f, nilA_p, nilA_i, fa_p, fd_a, ex_t, iadd_i, isub_i, imul_i, ieq_i, ine_i, ilt_i, ile_i, igt_i, ige_i, seq_s, sne_s, slt_s, lens_s, lenx_0, lenx_s, not_b, bb_e, bb_n, cv_i, pe_00, pe_0p, pe_p0, eqB_e, eqB_n, List.getElem?_cons_zero, List.getElem?_cons_succ, Nat.zero_add, Bool.not_true, Bool.not_false, decide_true, decide_false, Int.reduceBEq, Int.reduceBNe, Int.reduceLT, Int.reduceLE, Int.reduceGT, Int.reduceGE, Int.reduceNeg, BEq.rfl, bne_self_eq_false, ge_iff_le, gt_iff_lt]
    | true =>
      obtain ⟨e1, e2, e3, e4, e5, e6⟩ := b4 hB
      rw [e1] at b2 b3
      obtain ⟨hf1, hf2⟩ := b2.file x hx
      have hl := hf1.ld (o := 0) rfl
      have hlen := hf2.rw.len1
      rw [bs_len] at hlen
      obtain ⟨H2, c1, c2, c3, c4⟩ := put1 (t := (x.f.b.length : Int)) hf1 hf2 (b2.id_nd hx)
      have ra : ∀ y ∈ a, y.f.nm ≠ x.f.nm := by rw [r2]; exact r3
      have rb : ∀ y ∈ b, y.f.nm ≠ x.f.nm := by rw [r2]; exact r4
      obtain ⟨s1, s2⟩ := b2.setFile (f := ⟨x.f.nm, x.f.b, x.f.b.length⟩) r1 ra rb rfl c3 (fun j hj => by rw [List.mem_singleton.1 hj]; exact .head _) c2 c4 (fun j hj => .inl hj) (rid_nd _) (Nat.le_refl _) (h.ok.byte x.f hf) (by
        have := b2.sum_set r1 ra rb ⟨x.f.nm, x.f.b, x.f.b.length⟩
        have := b2.ok.sum
        simp only at *; omega)
      have hm2 := s1.ld_map
      obtain ⟨H3, d1, d2, d3, d4, d5, d6, d7⟩ := s1.delFile (a := a) (b := b) (x := ⟨x.id, x.sl, x.born, ⟨x.f.nm, x.f.b, x.f.b.length⟩⟩) rfl ra rb
      have hdel : delF x.f.nm (setF x.f.nm ⟨x.f.nm, x.f.b, x.f.b.length⟩ (burnM m).fs) = delF at' m.fs := by
        rw [e3, h.fs, r1, setF_split rfl ra rb, delF_split r2 r3 r4]
        have : a.map (·.f) ++ (⟨x.f.nm, x.f.b, x.f.b.length⟩ : Fl) :: b.map (·.f) = (a ++ (⟨x.id, x.sl, x.born, ⟨x.f.nm, x.f.b, x.f.b.length⟩⟩ : FC) :: b).map (·.f) := by rw [List.map_append, List.map_cons]
        rw [this, delF_split (x := ⟨x.id, x.sl, x.born, ⟨x.f.nm, x.f.b, x.f.b.length⟩⟩) rfl ra rb]
      simp only at d1 d2
      rw [hdel] at d2
      have hm3 := d2.ld_map
      have hsw : swapM m at' to' = (0, { burnM m with fs := putF ⟨to', x.f.b, x.f.b.length⟩ (delF at' m.fs) }) := by
        unfold swapM; rw [if_neg he11, if_neg (by simp [hok]), if_neg (by simp [he]), if_neg (by simp [hB]), r6]
      have hsumd : sumB (delF at' m.fs) + x.f.b.length = sumB m.fs := by
        rw [h.fs, r1, delF_split r2 r3 r4, List.map_append, List.map_append, List.map_cons, sumB_app, sumB_app, sumB_cons]; omega
      have hlend : (delF at' m.fs).length < 64 := by
        have h1 := h.ok.many
        rw [h.fs, r1] at h1 ⊢
        rw [delF_split r2 r3 r4]
        simp only [List.length_map, List.length_append, List.length_cons] at h1 ⊢
        omega
      have hsum0 := h.ok.sum
      rw [r2] at d1
      have g3 := (b3.trans s2).trans d3
      rcases d2.lookC to' with ⟨t1, t2, t3⟩ | ⟨a', y, b', t1, t2, t3, t4, t5, t6⟩
      · obtain ⟨H4, f1, f2, f3⟩ := d2.addFile (id := x.id) (sl := x.sl) (f := ⟨to', x.f.b, x.f.b.length⟩) t3 d4 d5 d6 d7 (Nat.le_refl _) (h.ok.byte x.f hf) (by simp only; rw [e4]; omega) hok hlend
        have hput : putF ⟨to', x.f.b, x.f.b.length⟩ (delF at' m.fs) = delF at' m.fs ++ [⟨to', x.f.b, x.f.b.length⟩] := by
          unfold putF
          have : (delF at' m.fs).find? (fun g => g.nm == to') = none := t2
          simp only [this]; rfl
        rw [hsw, hput]
        refine ⟨H4, _, c_store_Store_Swap ?_, f2, g3.1.trans (f3.mono fun j hj => by rw [List.mem_singleton.1 hj]; exact St.mem_mid (L := L)), fun j hj => ?_⟩
        · unfold s_store_Store_Swap
          simp only [h0, he, q1, q2, hn, hok, b1, hB, r5, hl, hlen, c1, hm2, d1, hm3, f1, Bool.false_eq_true, Bool.true_eq_false, or_self, if_false, JN_0, JN_1, JN_2, JN_3, JN_4, JN_5, JN_6, JN_7, JN_8, JN_9, JN_10, JN_11, JN_12, JN_13, JN_14, JN_15, JN_16, JN_17, JN_18, JN_19, JN_20, JN_21, JN_22, JN_23, JN_24, B1_s, B2_s, BN_s, CD_t, CD_f, GO_tt, GO_ft, GO_tf, GO_ff, GO_ut, GO_uf, GD2_tt, GD2_ft, GD2_tf, GD2_ff, pk_t, pk_f, nilA_p, nilA_i, fa_p, fd_a, ex_t, iadd_i, isub_i, imul_i, ieq_i, ine_i, ilt_i, ile_i, igt_i, ige_i, seq_s, sne_s, slt_s, lens_s, lenx_0, lenx_s, not_b, bb_e, bb_n, cv_i, pe_00, pe_0p, pe_p0, eqB_e, eqB_n, List.getElem?_cons_zero, List.getElem?_cons_succ, Nat.zero_add, Bool.not_true, Bool.not_false, decide_true, decide_false, Int.reduceBEq, Int.reduceBNe, Int.reduceLT, Int.reduceLE, Int.reduceGT, Int.reduceGE, Int.reduceNeg, BEq.rfl, bne_self_eq_false, ge_iff_le, gt_iff_lt]
        · unfold foot at hj
          rw [List.flatMap_append] at hj
          rcases List.mem_cons.1 hj with rfl | hj
          · exact .inl St.mem_p
          rcases List.mem_cons.1 hj with rfl | hj
          · exact .inl St.mem_mid
          rcases List.mem_append.1 hj with hj | hj
          · exact .inl (St.mem_keep hj)
          rcases List.mem_append.1 hj with hj | hj
          · obtain ⟨z, hz, hj⟩ := List.mem_flatMap.1 hj
            exact g3.2 j (St.mem_file (L := { L with cs := a ++ b }) hz hj)
          · simp only [List.flatMap_cons, List.flatMap_nil, List.append_nil] at hj
            exact .inl (St.mem_file hx hj)
      · have hsy := d2.sum_set t1 (by rw [t2]; exact t3) (by rw [t2]; exact t4) ⟨to', x.f.b, x.f.b.length⟩
        obtain ⟨H4, f1, f2, f3⟩ := d2.replFile t1 (id := x.id) (sl := x.sl) (f := ⟨to', x.f.b, x.f.b.length⟩) t2.symm (by rw [t2]; exact t3) (by rw [t2]; exact t4) d4 d5 d6 d7 (Nat.le_refl _) (h.ok.byte x.f hf) (by simp only at hsy ⊢; rw [e4]; omega)
        have hput : putF ⟨to', x.f.b, x.f.b.length⟩ (delF at' m.fs) = setF y.f.nm ⟨to', x.f.b, x.f.b.length⟩ (delF at' m.fs) := by
          unfold putF
          have : (delF at' m.fs).find? (fun g => g.nm == to') = some y.f := t6
          simp only [this, t2]; rfl
        rw [hsw, hput]
        refine ⟨H4, _, c_store_Store_Swap ?_, f2, g3.1.trans (f3.mono fun j hj => by rw [List.mem_singleton.1 hj]; exact St.mem_mid (L := L)), fun j hj => ?_⟩
        · unfold s_store_Store_Swap
          simp only [h0, he, q1, q2, hn, hok, b1, hB, r5, hl, hlen, c1, hm2, d1, hm3, f1, Bool.false_eq_true, Bool.true_eq_false, or_self, if_false, JN_0, JN_1, JN_2, JN_3, JN_4, JN_5, JN_6, JN_7, JN_8, JN_9, JN_10, JN_11, JN_12, JN_13, JN_14, JN_15, JN_16, JN_17, JN_18, JN_19, JN_20, JN_21, JN_22, JN_23, JN_24, B1_s, B2_s, BN_s, CD_t, CD_f, GO_tt, GO_ft, GO_tf, GO_ff, GO_ut, GO_uf, GD2_tt, GD2_ft, GD2_tf, GD2_ff, pk_t, pk_f, nilA_p, nilA_i, fa_p, fd_a, ex_t, iadd_i, isub_i, imul_i, ieq_i, ine_i, ilt_i, ile_i, igt_i, ige_i, seq_s, sne_s, slt_s, lens_s, lenx_0, lenx_s, not_b, bb_e, bb_n, cv_i, pe_00, pe_0p, pe_p0, eqB_e, eqB_n, List.getElem?_cons_zero, List.getElem?_cons_succ, Nat.zero_add, Bool.not_true, Bool.not_false, decide_true, decide_false, Int.reduceBEq, Int.reduceBNe, Int.reduceLT, Int.reduceLE, Int.reduceGT, Int.reduceGE, Int.reduceNeg, BEq.rfl, bne_self_eq_false, ge_iff_le, gt_iff_lt]
        · unfold foot at hj
          rw [List.flatMap_append, List.flatMap_cons] at hj
          have mz : ∀ z, z ∈ a' ∨ z ∈ b' → z ∈ a ++ b := fun z hz => by
            have t1' : a ++ b = a' ++ y :: b' := t1
            rw [t1']
            rcases hz with q | q
            · exact List.mem_append_left _ q
            · exact List.mem_append_right _ (.tail _ q)
          rcases List.mem_cons.1 hj with rfl | hj
          · exact .inl St.mem_p
          rcases List.mem_cons.1 hj with rfl | hj
          · exact .inl St.mem_mid
          rcases List.mem_append.1 hj with hj | hj
          · exact .inl (St.mem_keep hj)
          rcases List.mem_append.1 hj with hj | hj
          · obtain ⟨z, hz, hj⟩ := List.mem_flatMap.1 hj
            exact g3.2 j (St.mem_file (L := { L with cs := a ++ b }) (mz z (.inl hz)) hj)
          rcases List.mem_append.1 hj with hj | hj
          · exact .inl (St.mem_file hx hj)
          · obtain ⟨z, hz, hj⟩ := List.mem_flatMap.1 hj
            exact g3.2 j (St.mem_file (L := { L with cs := a ++ b }) (mz z (.inr hz)) hj)
  · have : swapM m at' to' = (ofE m at', m) := by unfold swapM; rw [if_neg he11, if_neg (by simp [hok]), if_pos he]
    rw [this]
    refine ⟨H, L, c_store_Store_Swap ?_, h, Go'.refl _ _ _⟩
    unfold s_store_Store_Swap
    simp only [h0, d11, hn, hok, ne_of_ofE he, JN_0, JN_1, JN_2, JN_3, JN_4, JN_5, JN_6, JN_7, JN_8, JN_9, JN_10, JN_11, JN_12, JN_13, JN_14, JN_15, JN_16, JN_17, JN_18, JN_19, JN_20, JN_21, JN_22, JN_23, JN_24, B1_s, B2_s, BN_s, CD_t, CD_f, GO_tt, GO_ft, GO_tf, GO_ff, GO_ut, GO_uf, GD2_tt, GD2_ft, GD2_tf, GD2_ff, pk_t, pk_f, nilA_p, nilA_i, fa_p, fd_a, ex_t, iadd_i, isub_i, imul_i, ieq_i, ine_i, ilt_i, ile_i, igt_i, ige_i, seq_s, sne_s, slt_s, lens_s, lenx_0, lenx_s, not_b, bb_e, bb_n, cv_i, pe_00, pe_0p, pe_p0, eqB_e, eqB_n, List.getElem?_cons_zero, List.getElem?_cons_succ, Nat.zero_add, Bool.not_true, Bool.not_false, decide_true, decide_false, Int.reduceBEq, Int.reduceBNe, Int.reduceLT, Int.reduceLE, Int.reduceGT, Int.reduceGE, Int.reduceNeg, BEq.rfl, bne_self_eq_false, ge_iff_le, gt_iff_lt]
end
/-- a store that begins -/
theorem new_c (H : Hp) (room : Int) : (room < 1 ∨ 16777216 < room → cK (.func (.func 10) [] []) [.int .i64 room] H = some (.tuple [.ptr0, .int .i64 1], H)) ∧
    ∀ r : Nat, room = r → 1 ≤ r → r ≤ 16777216 → ∃ H' p L, cK (.func (.func 10) [] []) [.int .i64 room] H = some (.tuple [.ptr p 0, .int .i64 0], H') ∧ St H' p ⟨r, false, 0, [], []⟩ L ∧ Out [] H H' ∧ ∀ j ∈ foot p L, H.next ≤ j := by
  constructor
  · intro h
    refine c_store_New ?_
    unfold s_store_New
    by_cases h1 : room < 1
    · simp only [decide_eq_true h1, JN_0, JN_1, JN_2, JN_3, JN_4, JN_5, JN_6, JN_7, JN_8, JN_9, JN_10, JN_11, JN_12, JN_13, JN_14, JN_15, JN_16, JN_17, JN_18, JN_19, JN_20, JN_21, JN_22, JN_23, JN_24, B1_s, B2_s, BN_s, CD_t, CD_f, GO_tt, GO_ft, GO_tf, GO_ff, GO_ut, GO_uf, GD2_tt, GD2_ft, GD2_tf, GD2_ff, pk_t, pk_f, nilA_p, nilA_i, fa_p, fd_a, ex_t, iadd_i, isub_i, imul_i, ieq_i, ine_i, ilt_i, ile_i, igt_i, ige_i, seq_s, sne_s, slt_s, lens_s, lenx_0, lenx_s, not_b, bb_e, bb_n, cv_i, pe_00, pe_0p, pe_p0, eqB_e, eqB_n, List.getElem?_cons_zero, List.getElem?_cons_succ, Nat.zero_add, Bool.not_true, Bool.not_false, decide_true, decide_false, Int.reduceBEq, Int.reduceBNe, Int.reduceLT, Int.reduceLE, Int.reduceGT, Int.reduceGE, Int.reduceNeg, BEq.rfl, bne_self_eq_false, ge_iff_le, gt_iff_lt]
    · simp only [decide_eq_false h1, decide_eq_true (show (16777216 : Int) < room by omega), JN_0, JN_1, JN_2, JN_3, JN_4, JN_5, JN_6, JN_7, JN_8, JN_9, JN_10, JN_11, JN_12, JN_13, JN_14, JN_15, JN_16, JN_17, JN_18, JN_19, JN_20, JN_21, JN_22, JN_23, JN_24, B1_s, B2_s, BN_s, CD_t, CD_f, GO_tt, GO_ft, GO_tf, GO_ff, GO_ut, GO_uf, GD2_tt, GD2_ft, GD2_tf, GD2_ff, pk_t, pk_f, nilA_p, nilA_i, fa_p, fd_a, ex_t, iadd_i, isub_i, imul_i, ieq_i, ine_i, ilt_i, ile_i, igt_i, ige_i, seq_s, sne_s, slt_s, lens_s, lenx_0, lenx_s, not_b, bb_e, bb_n, cv_i, pe_00, pe_0p, pe_p0, eqB_e, eqB_n, List.getElem?_cons_zero, List.getElem?_cons_succ, Nat.zero_add, Bool.not_true, Bool.not_false, decide_true, decide_false, Int.reduceBEq, Int.reduceBNe, Int.reduceLT, Int.reduceLE, Int.reduceGT, Int.reduceGE, Int.reduceNeg, BEq.rfl, bne_self_eq_false, ge_iff_le, gt_iff_lt]
  · intro r hr h1 h2
    subst hr
    obtain ⟨H1, a1, a2, a3, a4⟩ := mk0_ok H
    have hfl : fl [(.int .i64 0), .map0, (.bool false), (.int .i64 0), .slice0] [(0, 1, AV.int .i64 (r : Int)), (1, 1, (.map H.next))] = some [.int .i64 (r : Int), .map H.next, .bool false, .int .i64 ((0 : Nat) : Int), .slice0] := rfl
    obtain ⟨H2, b1, b2, b3, b4⟩ := bx_ok H1 61 (.agg [.int .i64 (r : Int), .map H.next, .bool false, .int .i64 ((0 : Nat) : Int), .slice0]) _ rfl (by simp)
    have a2' := a2.out b3 fun q => by cases q
    refine ⟨H2, H1.next, ⟨H.next, 0, .slice0, []⟩, c_store_New ?_, ⟨⟨_, b2⟩, a2', (fun x hx => by cases hx), .nil, ?_, rfl, rfl, ⟨h2, Nat.zero_le _, (fun f hf => by cases hf), (fun f hf => by cases hf), by simp, List.nodup_nil, (fun f hf => by cases hf), by simp⟩⟩, a3.trans b3, fun j hj => ?_⟩
    · unfold s_store_New
      simp only [decide_eq_false (show ¬ (r : Int) < 1 by omega), decide_eq_false (show ¬ (16777216 : Int) < (r : Int) by omega), a1, hfl, b1, JN_0, JN_1, JN_2, JN_3, JN_4, JN_5, JN_6, JN_7, JN_8, JN_9, JN_10, JN_11, JN_12, JN_13, JN_14, JN_15, JN_16, JN_17, JN_18, JN_19, JN_20, JN_21, JN_22, JN_23, JN_24, B1_s, B2_s, BN_s, CD_t, CD_f, GO_tt, GO_ft, GO_tf, GO_ff, GO_ut, GO_uf, GD2_tt, GD2_ft, GD2_tf, GD2_ff, pk_t, pk_f, nilA_p, nilA_i, fa_p, fd_a, ex_t, iadd_i, isub_i, imul_i, ieq_i, ine_i, ilt_i, ile_i, igt_i, ige_i, seq_s, sne_s, slt_s, lens_s, lenx_0, lenx_s, not_b, bb_e, bb_n, cv_i, pe_00, pe_0p, pe_p0, eqB_e, eqB_n, List.getElem?_cons_zero, List.getElem?_cons_succ, Nat.zero_add, Bool.not_true, Bool.not_false, decide_true, decide_false, Int.reduceBEq, Int.reduceBNe, Int.reduceLT, Int.reduceLE, Int.reduceGT, Int.reduceGE, Int.reduceNeg, BEq.rfl, bne_self_eq_false, ge_iff_le, gt_iff_lt]
    · simp only [foot, rid, List.flatMap_nil, List.append_nil, List.nodup_cons, List.mem_singleton, List.not_mem_nil, not_false_eq_true, List.nodup_nil, and_true]
      omega
    · simp only [foot, rid, List.flatMap_nil, List.append_nil, List.mem_cons, List.not_mem_nil, or_false] at hj
      omega
end Go.Proofs.YtnabkcdchklnpaaDoor.StC
namespace Go.Proofs.YtnabkcdchklnpaaDoor.Am.K
open Go
set_option linter.unusedVariables false
set_option linter.unusedSimpArgs false
theorem setR_left : ∀ (vs c r : List AV) (k : Nat), k + vs.length ≤ c.length → setR (c ++ r) k vs = setR c k vs ++ r
  | [], c, r, k, h => rfl
  | v :: vs, c, r, k, h => by
    simp only [List.length_cons] at h
    show setR ((c ++ r).set k v) (k + 1) vs = setR (c.set k v) (k + 1) vs ++ r
    rw [List.set_append_left _ _ (by omega)]
    exact setR_left vs _ _ _ (by rw [List.length_set]; omega)
theorem setR_right : ∀ (vs a r : List AV) (k : Nat), setR (a ++ r) (a.length + k) vs = a ++ setR r k vs
  | [], a, r, k => rfl
  | v :: vs, a, r, k => by
    show setR ((a ++ r).set (a.length + k) v) (a.length + k + 1) vs = a ++ setR (r.set k v) (k + 1) vs
    rw [List.set_append_right _ _ (by omega), Nat.add_sub_cancel_left, Nat.add_assoc]
    exact setR_right vs _ _ _
theorem flatten_set {es : Nat} {vs : List AV} {k : Nat} (hk : k + vs.length ≤ es) : ∀ {L : List (List AV)} {i : Nat} {c : List AV}, (∀ c ∈ L, c.length = es) → L[i]? = some c → (L.set i (setR c k vs)).flatten = setR L.flatten (i * es + k) vs
  | [], i, c, _, h => by simp at h
  | a :: L, 0, c, hl, h => by
    simp only [List.getElem?_cons_zero, Option.some.injEq] at h
    subst h
    have := hl a (.head _)
    rw [Nat.zero_mul, Nat.zero_add]
    show setR a k vs ++ L.flatten = setR (a ++ L.flatten) k vs
    rw [setR_left _ _ _ _ (by omega)]
  | a :: L, i + 1, c, hl, h => by
    simp only [List.getElem?_cons_succ] at h
    have ha := hl a (.head _)
    show a ++ (L.set i (setR c k vs)).flatten = setR (a ++ L.flatten) ((i + 1) * es + k) vs
    rw [flatten_set hk (fun d hd => hl d (.tail _ hd)) h, Nat.add_mul, Nat.one_mul, show i * es + es + k = a.length + (i * es + k) by omega, setR_right]
/-- cells of one part set in place -/
theorem OL.stAt {H : Hp} {el es : Nat} {x : AV} {L : List (List AV)} (h : OL H el es x L) {i k b o : Nat} {c vs : List AV} (hi : L[i]? = some c) (hia : ∀ kd, ia es x (.int kd i) = some (.ptr b o)) (hv : ∀ v ∈ vs, oneC v = true) (hk : k + vs.length ≤ es) (hes : 0 < es) :
    ∃ H', setCells H b (o + k) vs = some H' ∧ OL H' el es x (L.set i (setR c k vs)) ∧ Out (rid x) H H' ∧ H'.next = H.next := by
  obtain ⟨ho, hl⟩ := h
  have hil := (List.getElem?_eq_some_iff.1 hi).1
  have hfl := flatten_len hl
  have hfs := flatten_set hk hl hi
  have hc := hl c (List.mem_of_getElem? hi)
  have hpos : i * es + es ≤ L.flatten.length := by
    rw [hfl]
    have := Nat.mul_le_mul_right es (show i + 1 ≤ L.length by omega)
    rw [Nat.add_mul, Nat.one_mul] at this
    exact this
  have hL' : ∀ d ∈ L.set i (setR c k vs), d.length = es := fun d hd => by
    rcases List.mem_or_eq_of_mem_set hd with hd | rfl
    · exact hl d hd
    · rw [setR_len]; exact hc
  generalize hF : L.flatten = F at *
  cases ho with
  | nil => simp at hpos; omega
  | emp => simp at hpos; omega
  | @mk i0 off n cap ex _ ct lo hi0 fl hi' hg hf hlo hhi hcap hn hcc hs h1 he =>
    have hin : i < n := by
      rw [hfl] at hn
      exact Nat.eq_of_mul_eq_mul_right hes hn ▸ hil
    have e := hia .i64
    rw [ia_s hin] at e
    injection e with e
    injection e with eb eo
    subst eb
    subst eo
    have hcn : n * es ≤ cap * es := Nat.mul_le_mul_right _ hcap
    obtain ⟨H', c', q1, q2, q3, q4, q5⟩ := setCells_get vs H i0 (off + i * es + k) ct lo hi0 el fl hg hf (by omega) (by omega) (fun m hm => by
      have := hs (i * es + k + m) (by omega)
      rw [show off + i * es + k + m = off + (i * es + k + m) by omega]
      exact this) hv
    refine ⟨H', q1, ⟨?_, hL'⟩, ⟨by omega, fun j hj hn' => q4 j fun e => hn' (by subst e; rw [rid_s he]; exact .head _)⟩, q2⟩
    rw [hfs]
    refine .mk (by omega) q3 hf hlo hhi hcap (by rw [setR_len]; exact hn) (fun m w hm => ?_) (fun m hm => ?_) (fun w hw => ?_) he
    · rw [q5]
      rw [setR_get _ _ _ _ (by omega)] at hm
      split at hm
      · rw [if_pos (by omega), show off + m - (off + i * es + k) = m - (i * es + k) by omega]; exact hm
      · rw [if_neg (by omega)]; exact hcc m w hm
    · rw [q5]
      split
      · rename_i hb
        rw [List.getElem?_eq_getElem (by omega)]; rfl
      · exact hs m hm
    · obtain ⟨m, hm⟩ := List.getElem?_of_mem hw
      rw [setR_get _ _ _ _ (by omega)] at hm
      split at hm
      · exact hv w (List.mem_of_getElem? hm)
      · exact h1 w (List.mem_of_getElem? hm)
theorem OL.st1 {H : Hp} {el es : Nat} {x : AV} {L : List (List AV)} (h : OL H el es x L) {i k b o : Nat} {c : List AV} {v : AV} (hi : L[i]? = some c) (hia : ∀ kd, ia es x (.int kd i) = some (.ptr b o)) (hv : oneC v = true) (hk : k < es) :
    ∃ H', st 1 (.ptr b (o + k)) v H = some H' ∧ OL H' el es x (L.set i (c.set k v)) ∧ Out (rid x) H H' ∧ H'.next = H.next := by
  obtain ⟨H', h1, h2⟩ := h.stAt (k := k) (vs := [v]) hi hia (fun u hu => by rw [List.mem_singleton] at hu; subst hu; exact hv) (by simp only [List.length_cons, List.length_nil]; omega) (by omega)
  refine ⟨H', ?_, h2⟩
  unfold st
  simp only [cellsV_one hv]
  exact h1
end Go.Proofs.YtnabkcdchklnpaaDoor.Am.K
namespace Go.Proofs.YtnabkcdchklnpaaDoor.StP
open Go Am Am.K StEnv StK StC
set_option linter.unusedVariables false
set_option linter.unusedSimpArgs false
set_option maxRecDepth 10000
/-!  -/
theorem gch_mem (c : Nat) : memC c cutN = gch c := by
  rw [memC_eq]
  by_cases h : c < 123
  · have : ∀ n : Fin 123, cutN.contains n.1 = gch n.1 := by decide
    exact this ⟨c, h⟩
  · have h1 : gch c = false := by simp [gch]; omega
    rw [h1]
    have : c ∉ cutN := fun q => by
      have : ∀ x ∈ cutN, x < 123 := by decide
      exact h (this c q)
    simpa using this
theorem dropC_all : ∀ l : List Nat, l.all gch = true → dropC cutN l = []
  | [], _ => rfl
  | c :: l, h => by
    simp only [List.all_cons, Bool.and_eq_true] at h
    rw [dropC_eq, List.dropWhile_cons, ← memC_eq, gch_mem, h.1, if_pos rfl, ← dropC_eq]
    exact dropC_all l h.2
theorem dropC_nil : ∀ l : List Nat, dropC cutN l = [] → l.all gch = true
  | [], _ => rfl
  | c :: l, h => by
    rw [dropC_eq, List.dropWhile_cons, ← memC_eq, gch_mem] at h
    cases hg : gch c with
    | false => rw [hg, if_neg (by simp)] at h; cases h
    | true =>
      rw [hg, if_pos rfl, ← dropC_eq] at h
      simp only [List.all_cons, hg, Bool.true_and]
      exact dropC_nil l h
theorem dropC_hd : ∀ (l : List Nat) (c : Nat) (r : List Nat), dropC cutN l = c :: r → gch c = false
  | [], c, r, h => by cases h
  | d :: l, c, r, h => by
    rw [dropC_eq, List.dropWhile_cons, ← memC_eq, gch_mem] at h
    cases hg : gch d with
    | false => rw [hg, if_neg (by simp)] at h; cases h; exact hg
    | true =>
      rw [hg, if_pos rfl, ← dropC_eq] at h
      exact dropC_hd l c r h
theorem trim_nil (s : List Nat) : (trimN s cutN == []) = s.all gch := by
  unfold trimN
  rw [revC_eq, revC_eq, List.append_nil, List.append_nil]
  cases ha : s.all gch with
  | true =>
    have : s.reverse.all gch = true := by rw [List.all_reverse]; exact ha
    rw [dropC_all _ this]; rfl
  | false =>
    cases hd : dropC cutN s.reverse with
    | nil =>
      have := dropC_nil _ hd
      rw [List.all_reverse, ha] at this
      cases this
    | cons c r =>
      have hc := dropC_hd _ _ _ hd
      rw [beq_eq_false_iff_ne]
      intro q
      have := dropC_nil _ q
      rw [List.all_reverse] at this
      simp only [List.all_cons, hc, Bool.false_and] at this
      cases this
theorem goodN_ok (s : List Nat) : goodN s = okName s := by
  unfold goodN okName
  rw [trim_nil]
  have e1 : decide (1 ≤ s.length) = !(s == []) := by cases s <;> simp
  have e2 : decide (((s.length : Nat) : Int) ≤ 16) = decide (s.length ≤ 16) := decide_eq_decide.2 (by omega)
  rw [e1, e2]
  cases s.all gch <;> cases (s == []) <;> cases decide (s.length ≤ 16) <;> rfl

/-! the reference store -/
structure RM where
  room : Nat
  off : Bool
  fuse : Int
  keep : List Int
  fs : List Fl
structure RLay where
  l : List (Fl × AV)
  xf : AV
  xk : AV
def rcell (q : Fl × AV) : List AV := [.str q.1.nm, q.2, .int .i64 q.1.sure]
def rft (p : Nat) (R : RLay) : List Nat := p :: (rid R.xf ++ (rid R.xk ++ R.l.flatMap fun q => rid q.2))
structure RS (H : Hp) (p : Nat) (r : RM) (R : RLay) : Prop where
  head : C0 H p [.int .i64 r.room, R.xf, .bool r.off, .int .i64 r.fuse, R.xk]
  row : OL H 76 3 R.xf (R.l.map rcell)
  bs : ∀ q ∈ R.l, Rw H 1 q.2 (bs q.1.b)
  keep : Rw H 1 R.xk (ints r.keep)
  fs : r.fs = R.l.map (·.1)
  pf : p ∉ rid R.xf
  pk : ∀ j ∈ rid R.xk, j ≠ p ∧ j ∉ rid R.xf
  pq : ∀ q ∈ R.l, ∀ j ∈ rid q.2, j ≠ p ∧ j ∉ rid R.xf
  room : r.room ≤ 16777216
  fuse : -9223372036854775808 ≤ r.fuse ∧ r.fuse ≤ 9223372036854775807
  many : r.fs.length ≤ 64
  sz : ∀ f ∈ r.fs, f.b.length ≤ 16777216 ∧ f.sure ≤ 16777216 ∧ ∀ c ∈ f.b, c < 256
/-- what a call may touch -/
def Rgo (p : Nat) (H : Hp) (R : RLay) (H' : Hp) (R' : RLay) : Prop := Out (rft p R) H H' ∧ ∀ j ∈ rft p R', j ∈ rft p R ∨ H.next ≤ j
theorem Rgo.refl (p : Nat) (H : Hp) (R : RLay) : Rgo p H R H R := ⟨Out.refl _ _, fun _ h => .inl h⟩
theorem Rgo.trans {p : Nat} {H H' H'' : Hp} {R R' R'' : RLay} (h : Rgo p H R H' R') (k : Rgo p H' R' H'' R'') : Rgo p H R H'' R'' :=
  ⟨h.1.then k.1 h.2, fun j hj => (k.2 j hj).elim (fun q => h.2 j q) (fun q => .inr (Nat.le_trans h.1.1 q))⟩
section
variable {H : Hp} {p : Nat} {r : RM} {R : RLay}
theorem rft_cases {j : Nat} : j ∈ rft p R ↔ j = p ∨ j ∈ rid R.xf ∨ j ∈ rid R.xk ∨ ∃ q ∈ R.l, j ∈ rid q.2 := by
  unfold rft
  simp only [List.mem_cons, List.mem_append, List.mem_flatMap]
theorem RS.lt (h : RS H p r R) : ∀ j ∈ rft p R, j < H.next := by
  intro j hj
  rcases rft_cases.1 hj with rfl | hj | hj | ⟨q, hq, hj⟩
  · exact h.head.lt
  · exact h.row.1.rw.lt j hj
  · exact h.keep.lt j hj
  · exact (h.bs q hq).lt j hj
theorem RS.out {H' : Hp} {S : List Nat} (h : RS H p r R) (k : Out S H H') (hs : ∀ j ∈ rft p R, j ∉ S) : RS H' p r R :=
  { h with
    head := h.head.out k (hs _ (rft_cases.2 (.inl rfl)))
    row := h.row.out k fun j hj => hs _ (rft_cases.2 (.inr (.inl hj)))
    bs := fun q hq => (h.bs q hq).out k fun j hj => hs _ (rft_cases.2 (.inr (.inr (.inr ⟨q, hq, hj⟩))))
    keep := h.keep.out k fun j hj => hs _ (rft_cases.2 (.inr (.inr (.inl hj)))) }
theorem RS.out0 {H' : Hp} (h : RS H p r R) (k : Out [] H H') : RS H' p r R := h.out k fun _ _ q => by cases q
theorem RS.len (h : RS H p r R) : r.fs.length = R.l.length := by rw [h.fs, List.length_map]
theorem RS.ld_room (h : RS H p r R) : ld (.ptr p 0) H = some (.int .i64 r.room) := h.head.ld (o := 0) rfl
theorem RS.ld_f (h : RS H p r R) : ld (.ptr p 1) H = some R.xf := h.head.ld (o := 1) rfl
theorem RS.ld_off (h : RS H p r R) : ld (.ptr p 2) H = some (.bool r.off) := h.head.ld (o := 2) rfl
theorem RS.ld_fuse (h : RS H p r R) : ld (.ptr p 3) H = some (.int .i64 r.fuse) := h.head.ld (o := 3) rfl
theorem RS.ld_keep (h : RS H p r R) : ld (.ptr p 4) H = some R.xk := h.head.ld (o := 4) rfl
theorem RS.lenx (h : RS H p r R) : lenx R.xf = some (.int .i64 (R.l.length : Nat)) := by
  have := h.row.rl.len (by decide)
  rwa [List.length_map] at this
/-- the cells of a file -/
theorem RS.at (h : RS H p r R) {i : Nat} {q : Fl × AV} (hi : R.l[i]? = some q) : ∃ b o, (∀ k, ia 3 R.xf (.int k i) = some (.ptr b o)) ∧ b ∈ rid R.xf ∧ cellsAt H b o 3 = some (rcell q) ∧
    ld (.ptr b o) H = some (.str q.1.nm) ∧ ld (.ptr b (o + 1)) H = some q.2 ∧ ld (.ptr b (o + 2)) H = some (.int .i64 q.1.sure) := by
  obtain ⟨b, o, h1, h2, h3, h4, h5⟩ := h.row.rl.at (by decide) (i := i) (c := rcell q) (by rw [List.getElem?_map, hi]; rfl)
  exact ⟨b, o, h1, h2, h4, h5 0 _ rfl, h5 1 _ rfl, h5 2 _ rfl⟩
end
def idxG (at' : List Nat) : List Fl → Nat → Option Nat
  | [], _ => none
  | f :: r, i => if f.nm = at' then some i else idxG at' r (i + 1)
abbrev idx (at' : List Nat) (fs : List Fl) : Option Nat := idxG at' fs 0
def idxI (at' : List Nat) (fs : List Fl) : Int := match idx at' fs with | some i => (i : Int) | none => -1
theorem idxG_some {at' : List Nat} : ∀ {fs : List Fl} {i k : Nat}, idxG at' fs i = some k → ∃ j f, k = i + j ∧ fs[j]? = some f ∧ f.nm = at'
  | [], i, k, h => by cases h
  | f :: r, i, k, h => by
    unfold idxG at h
    split at h
    · cases h; exact ⟨0, f, rfl, rfl, by assumption⟩
    · obtain ⟨j, g, h1, h2, h3⟩ := idxG_some h
      exact ⟨j + 1, g, by omega, by simpa using h2, h3⟩
theorem idxG_none {at' : List Nat} : ∀ {fs : List Fl} {i : Nat}, idxG at' fs i = none ↔ ∀ f ∈ fs, f.nm ≠ at'
  | [], i => by simp [idxG]
  | f :: r, i => by
    unfold idxG
    split
    · rename_i q; simp [q]
    · rename_i q; rw [idxG_none]; simp [q]
theorem idx_some {at' : List Nat} {fs : List Fl} {k : Nat} (h : idx at' fs = some k) : ∃ f, fs[k]? = some f ∧ f.nm = at' := by
  obtain ⟨j, f, h1, h2, h3⟩ := idxG_some h
  exact ⟨f, by rw [h1, Nat.zero_add]; exact h2, h3⟩
section
variable {H : Hp} {p : Nat} {r : RM} {R : RLay}
theorem find_loop (h : RS H p r R) (at' : List Nat) (j1 : Am.K.Fn 0) : ∀ (m i : Nat), i + m = R.l.length →
    l_outriderref1_Store_find JN GO cK j1 (.ptr p 0) (.str at') (.int .i64 i) H = match idxG at' (r.fs.drop i) i with | some k => some (.int .i64 k, H) | none => j1 H := by
  intro m
  have hm := h.many
  rw [h.len] at hm
  have l1 := h.ld_f
  have l2 := h.lenx
  induction m with
  | zero =>
    intro i hi
    obtain rfl : i = R.l.length := by omega
    have d : decide (((R.l.length : Nat) : Int) < ((R.l.length : Nat) : Int)) = false := decide_eq_false (by omega)
    rw [ql_outriderref1_Store_find, h.fs, List.drop_eq_nil_of_le (by simp)]
    simp only [bl_outriderref1_Store_find, l1, l2, d, k_s, k_x, Int.reduceBEq, Int.reduceBNe, Int.reduceLT, Int.reduceLE, Int.reduceGT, Int.reduceGE, Int.reduceNeg]
    rfl
  | succ m ih =>
    intro i hi
    have hlt : i < R.l.length := by omega
    obtain ⟨q, hq⟩ : ∃ q, R.l[i]? = some q := ⟨_, List.getElem?_eq_getElem hlt⟩
    obtain ⟨b, o, a1, a2, a3, a4, a5, a6⟩ := h.at hq
    have hd : r.fs.drop i = q.1 :: r.fs.drop (i + 1) := by
      rw [h.fs, List.drop_eq_getElem_cons (by simpa using hlt)]
      congr 1
      rw [List.getElem_map]
      rw [List.getElem?_eq_getElem hlt] at hq
      rw [Option.some.inj hq]
    have d : decide ((i : Int) < ((R.l.length : Nat) : Int)) = true := decide_eq_true (by omega)
    have es : IntKind.wrap .i64 ((i : Int) + 1) = ((i + 1 : Nat) : Int) := by rw [wrap_i64 (by omega) (by omega)]; rfl
    rw [ql_outriderref1_Store_find, hd]
    unfold idxG
    by_cases hn : q.1.nm = at'
    · have b1 : (q.1.nm == at') = true := by simpa using hn
      rw [if_pos hn]
      simp only [bl_outriderref1_Store_find, l1, l2, d, a1, Nat.add_zero, a4, b1, k_s, k_x, Int.reduceBEq, Int.reduceBNe, Int.reduceLT, Int.reduceLE, Int.reduceGT, Int.reduceGE, Int.reduceNeg]
    · have b1 : (q.1.nm == at') = false := by simpa using hn
      rw [if_neg hn]
      simp only [bl_outriderref1_Store_find, l1, l2, d, a1, Nat.add_zero, a4, b1, es, ih (i + 1) (by omega), k_s, k_x, Int.reduceBEq, Int.reduceBNe, Int.reduceLT, Int.reduceLE, Int.reduceGT, Int.reduceGE, Int.reduceNeg]
theorem find_c (h : RS H p r R) (at' : List Nat) : cK (.func (.func 44) [] []) [.ptr p 0, .str at'] H = some (.int .i64 (idxI at' r.fs), H) := by
  have h0 := fun j1 => find_loop h at' j1 R.l.length 0 (by omega)
  have z : ((0 : Nat) : Int) = 0 := rfl
  rw [z] at h0
  refine c_outriderref1_Store_find ?_
  unfold s_outriderref1_Store_find idxI idx
  simp only [h0, List.drop_zero, k_s, k_x, Int.reduceBEq, Int.reduceBNe, Int.reduceLT, Int.reduceLE, Int.reduceGT, Int.reduceGE, Int.reduceNeg]
  cases idxG at' r.fs 0 <;> rfl
end
/-!  -/
theorem same_rw {H : Hp} {es : Nat} {x : AV} {l : List AV} (h : Rw H es x l) : same x x = true := by
  cases h <;> simp [same, sameS]
section
variable {H : Hp} {p : Nat} {r : RM} {R : RLay}
theorem RS.drop (h : RS H p r R) {i : Nat} {q : Fl × AV} (hq : R.l[i]? = some q) : r.fs.drop i = q.1 :: r.fs.drop (i + 1) := by
  have hlt := (List.getElem?_eq_some_iff.1 hq).1
  rw [h.fs, List.drop_eq_getElem_cons (by simpa using hlt)]
  congr 1
  rw [List.getElem_map]
  rw [List.getElem?_eq_getElem hlt] at hq
  rw [Option.some.inj hq]
theorem RS.fsAt (h : RS H p r R) {i : Nat} {q : Fl × AV} (hq : R.l[i]? = some q) : r.fs[i]? = some q.1 := by rw [h.fs, List.getElem?_map, hq]; rfl
theorem RS.szq (h : RS H p r R) {i : Nat} {q : Fl × AV} (hq : R.l[i]? = some q) : q.1.b.length ≤ 16777216 ∧ q.1.sure ≤ 16777216 ∧ ∀ c ∈ q.1.b, c < 256 := h.sz _ (List.mem_of_getElem? (h.fsAt hq))
theorem free_loop (h : RS H p r R) (j8 : Am.K.Fn 1) : ∀ (m i : Nat) (n : Int), i + m = R.l.length → n ≤ 16777216 → -16777216 * i ≤ n →
    l_outriderref1_Store_Free JN GO cK j8 (.ptr p 0) (.int .i64 n) (.int .i64 i) H = j8 (.int .i64 (n - sumB (r.fs.drop i))) H := by
  intro m
  have hm := h.many
  rw [h.len] at hm
  have l1 := h.ld_f
  have l2 := h.lenx
  induction m with
  | zero =>
    intro i n hi _ _
    obtain rfl : i = R.l.length := by omega
    have d : decide (((R.l.length : Nat) : Int) < ((R.l.length : Nat) : Int)) = false := decide_eq_false (by omega)
    rw [ql_outriderref1_Store_Free, h.fs, List.drop_eq_nil_of_le (by simp)]
    simp only [bl_outriderref1_Store_Free, l1, l2, d, k_s, k_x, Int.reduceBEq, Int.reduceBNe, Int.reduceLT, Int.reduceLE, Int.reduceGT, Int.reduceGE, Int.reduceNeg]
    simp [sumB]
  | succ m ih =>
    intro i n hi hn hn2
    have hlt : i < R.l.length := by omega
    obtain ⟨q, hq⟩ : ∃ q, R.l[i]? = some q := ⟨_, List.getElem?_eq_getElem hlt⟩
    obtain ⟨b, o, a1, a2, a3, a4, a5, a6⟩ := h.at hq
    have hsz := h.szq hq
    have hy := (h.bs q (List.mem_of_getElem? hq)).len1
    rw [bs_len] at hy
    have d : decide ((i : Int) < ((R.l.length : Nat) : Int)) = true := decide_eq_true (by omega)
    have es : IntKind.wrap .i64 ((i : Int) + 1) = ((i + 1 : Nat) : Int) := by rw [wrap_i64 (by omega) (by omega)]; rfl
    have es2 : IntKind.wrap .i64 (n - (q.1.b.length : Nat)) = n - (q.1.b.length : Nat) := wrap_i64 (by omega) (by omega)
    have ih' := ih (i + 1) (n - (q.1.b.length : Nat)) (by omega) (by omega) (by omega)
    have e3 : n - (sumB (r.fs.drop i) : Nat) = n - (q.1.b.length : Nat) - (sumB (r.fs.drop (i + 1)) : Nat) := by rw [h.drop hq, sumB_cons]; omega
    rw [ql_outriderref1_Store_Free, e3]
    simp only [bl_outriderref1_Store_Free, l1, l2, d, a1, a5, hy, es, es2, ih', k_s, k_x, Int.reduceBEq, Int.reduceBNe, Int.reduceLT, Int.reduceLE, Int.reduceGT, Int.reduceGE, Int.reduceNeg]
theorem rfree_c (h : RS H p r R) : cK (.func (.func 35) [] []) [.ptr p 0] H = some (.int .i64 ((r.room : Int) - sumB r.fs), H) := by
  have hr := h.room
  have h0 := fun j8 => free_loop h j8 R.l.length 0 (r.room : Int) (by omega) (by omega) (by omega)
  have z : ((0 : Nat) : Int) = 0 := rfl
  rw [z] at h0
  have l0 := h.ld_room
  refine c_outriderref1_Store_Free ?_
  unfold s_outriderref1_Store_Free
  simp only [l0, h0, List.drop_zero, k_s, k_x, Int.reduceBEq, Int.reduceBNe, Int.reduceLT, Int.reduceLE, Int.reduceGT, Int.reduceGE, Int.reduceNeg]
def lookE (r : RM) (at' : List Nat) (there : Bool) : Int := if r.off = true then 11 else if goodN at' = false then 1 else if there = true ∧ idx at' r.fs = none then 4 else 0
theorem idxI_neg (at' : List Nat) (fs : List Fl) : decide (idxI at' fs < 0) = (idx at' fs).isNone := by
  unfold idxI
  cases idx at' fs with
  | none => rfl
  | some i => exact decide_eq_false (by show ¬ ((i : Int) < 0); omega)
theorem look_c (h : RS H p r R) (at' : List Nat) (hat : at'.length ≤ 1000000000000000000) (there : Bool) : cK (.func (.func 43) [] []) [.ptr p 0, .str at', .bool there] H = some (.int .i64 (lookE r at' there), H) := by
  have l1 := h.ld_off
  have g1 := good_c at' hat H
  have f1 := find_c h at'
  have i1 := idxI_neg at' r.fs
  refine c_outriderref1_Store_look ?_
  unfold s_outriderref1_Store_look lookE
  cases ho : r.off with
  | true =>
    rw [ho] at l1
    simp only [l1, if_true, k_s, k_x, Int.reduceBEq, Int.reduceBNe, Int.reduceLT, Int.reduceLE, Int.reduceGT, Int.reduceGE, Int.reduceNeg]
  | false =>
    rw [ho] at l1
    cases hg : goodN at' with
    | false =>
      rw [hg] at g1
      simp only [l1, g1, if_true, Bool.false_eq_true, if_false, k_s, k_x, Int.reduceBEq, Int.reduceBNe, Int.reduceLT, Int.reduceLE, Int.reduceGT, Int.reduceGE, Int.reduceNeg]
    | true =>
      rw [hg] at g1
      cases there with
      | false => simp only [l1, g1, f1, Bool.false_eq_true, reduceCtorEq, false_and, if_false, k_s, k_x, Int.reduceBEq, Int.reduceBNe, Int.reduceLT, Int.reduceLE, Int.reduceGT, Int.reduceGE, Int.reduceNeg]
      | true =>
        cases hi : idx at' r.fs with
        | none =>
          rw [hi] at i1
          simp only [l1, g1, f1, i1, Option.isNone_none, Bool.false_eq_true, reduceCtorEq, true_and, if_true, if_false, k_s, k_x, Int.reduceBEq, Int.reduceBNe, Int.reduceLT, Int.reduceLE, Int.reduceGT, Int.reduceGE, Int.reduceNeg]
        | some k =>
          rw [hi] at i1
          simp only [l1, g1, f1, i1, Option.isNone_some, Bool.false_eq_true, reduceCtorEq, and_false, if_false, k_s, k_x, Int.reduceBEq, Int.reduceBNe, Int.reduceLT, Int.reduceLE, Int.reduceGT, Int.reduceGE, Int.reduceNeg]
/-- the file of a name -/
def fileR (at' : List Nat) (fs : List Fl) : Option Fl := match idx at' fs with | some i => fs[i]? | none => none
theorem RS.idxAt (h : RS H p r R) {at' : List Nat} {k : Nat} (hk : idx at' r.fs = some k) : ∃ q, R.l[k]? = some q ∧ q.1.nm = at' ∧ fileR at' r.fs = some q.1 ∧ idxI at' r.fs = k := by
  obtain ⟨f, h1, h2⟩ := idx_some hk
  have hlt : k < R.l.length := by rw [← h.len]; exact (List.getElem?_eq_some_iff.1 h1).1
  have hq : R.l[k]? = some R.l[k] := List.getElem?_eq_getElem hlt
  have e := h.fsAt hq
  rw [h1] at e
  refine ⟨_, hq, by rw [← Option.some.inj e]; exact h2, by unfold fileR; rw [hk]; exact h1.trans e, by unfold idxI; rw [hk]⟩
theorem rsure_c (h : RS H p r R) (at' : List Nat) : cK (.func (.func 34) [] []) [.ptr p 0, .str at'] H = some (.int .i64 (match fileR at' r.fs with | some f => (f.sure : Int) | none => 0), H) := by
  have f1 := find_c h at'
  have i1 := idxI_neg at' r.fs
  have l1 := h.ld_f
  refine c_outriderref1_Store_Sure ?_
  unfold s_outriderref1_Store_Sure
  cases hi : idx at' r.fs with
  | none =>
    rw [hi] at i1
    have : fileR at' r.fs = none := by unfold fileR; rw [hi]
    rw [this]
    simp only [f1, i1, Option.isNone_none, k_s, k_x, Int.reduceBEq, Int.reduceBNe, Int.reduceLT, Int.reduceLE, Int.reduceGT, Int.reduceGE, Int.reduceNeg]
  | some k =>
    rw [hi] at i1
    obtain ⟨q, hq, e1, e2, e3⟩ := h.idxAt hi
    obtain ⟨b, o, a1, a2, a3, a4, a5, a6⟩ := h.at hq
    rw [e3] at i1 f1
    rw [e2]
    simp only [f1, i1, Option.isNone_some, l1, a1, a6, k_s, k_x, Int.reduceBEq, Int.reduceBNe, Int.reduceLT, Int.reduceLE, Int.reduceGT, Int.reduceGE, Int.reduceNeg]
def rreadM (r : RM) (at' : List Nat) : List Nat := if lookE r at' true = 0 then (match fileR at' r.fs with | some f => f.b | none => []) else []
theorem lookE_0 {r : RM} {at' : List Nat} (h : lookE r at' true = 0) : r.off = false ∧ goodN at' = true ∧ ∃ k, idx at' r.fs = some k := by
  unfold lookE at h
  split at h
  · cases h
  · split at h
    · cases h
    · split at h
      · cases h
      · rename_i h1 h2 h3
        refine ⟨by simpa using h1, by simpa using h2, ?_⟩
        cases hk : idx at' r.fs with
        | none => exact absurd ⟨rfl, hk⟩ h3
        | some k => exact ⟨k, rfl⟩
theorem rread_c (h : RS H p r R) (at' : List Nat) (hat : at'.length ≤ 1000000000000000000) : cK (.func (.func 32) [] []) [.ptr p 0, .str at'] H = some (.tuple [.str (rreadM r at'), .int .i64 (lookE r at' true)], H) := by
  have k1 := look_c h at' hat true
  have f1 := find_c h at'
  have l1 := h.ld_f
  refine c_outriderref1_Store_Read ?_
  unfold s_outriderref1_Store_Read rreadM
  by_cases he : lookE r at' true = 0
  · obtain ⟨h1, h2, k, hk⟩ := lookE_0 he
    obtain ⟨q, hq, e1, e2, e3⟩ := h.idxAt hk
    obtain ⟨b, o, a1, a2, a3, a4, a5, a6⟩ := h.at hq
    have b2 := b2s_ok (h.bs q (List.mem_of_getElem? hq)) (h.szq hq).2.2
    have sm : same R.xf R.xf = true := same_rw h.row.1.rw
    rw [e3] at f1
    rw [if_pos he, e2, he]
    rw [he] at k1
    simp only [k1, f1, l1, a1, a5, b2, SM_t sm, k_s, k_x, Int.reduceBEq, Int.reduceBNe, Int.reduceLT, Int.reduceLE, Int.reduceGT, Int.reduceGE, Int.reduceNeg]
  · have hn : (lookE r at' true != 0) = true := by simpa using he
    rw [if_neg he]
    simp only [k1, hn, k_s, k_x, Int.reduceBEq, Int.reduceBNe, Int.reduceLT, Int.reduceLE, Int.reduceGT, Int.reduceGE, Int.reduceNeg]
theorem rnames_loop (h : RS H p r R) (j1 : Am.K.Fn 1) : ∀ (m i : Nat) (H1 : Hp) (x : AV) (done : List (List Nat)), i + m = R.l.length → Out [] H H1 → Ow H1 9 1 x (strs done) → (∀ j ∈ rid x, H.next ≤ j) → done.length ≤ i →
    ∃ x' H', l_outriderref1_Store_Names JN GO cK j1 (.ptr p 0) x (.int .i64 i) H1 = j1 x' H' ∧ Ow H' 9 1 x' (strs (done ++ (r.fs.drop i).map (·.nm))) ∧ Out [] H H' ∧ (∀ j ∈ rid x', H.next ≤ j) := by
  intro m
  have hm := h.many
  rw [h.len] at hm
  induction m with
  | zero =>
    intro i H1 x done hi ho hx hj hd
    obtain rfl : i = R.l.length := by omega
    have h1 := h.out0 ho
    have l1 := h1.ld_f
    have l2 := h1.lenx
    have d : decide (((R.l.length : Nat) : Int) < ((R.l.length : Nat) : Int)) = false := decide_eq_false (by omega)
    refine ⟨x, H1, ?_, by rw [h.fs, List.drop_eq_nil_of_le (by simp)]; simpa using hx, ho, hj⟩
    rw [ql_outriderref1_Store_Names]
    simp only [bl_outriderref1_Store_Names, l1, l2, d, k_s, k_x, Int.reduceBEq, Int.reduceBNe, Int.reduceLT, Int.reduceLE, Int.reduceGT, Int.reduceGE, Int.reduceNeg]
  | succ m ih =>
    intro i H1 x done hi ho hx hj hdl
    have h1 := h.out0 ho
    have l1 := h1.ld_f
    have l2 := h1.lenx
    have hlt : i < R.l.length := by omega
    obtain ⟨q, hq⟩ : ∃ q, R.l[i]? = some q := ⟨_, List.getElem?_eq_getElem hlt⟩
    obtain ⟨b, o, a1, a2, a3, a4, a5, a6⟩ := h1.at hq
    have d : decide ((i : Int) < ((R.l.length : Nat) : Int)) = true := decide_eq_true (by omega)
    have es : IntKind.wrap .i64 ((i : Int) + 1) = ((i + 1 : Nat) : Int) := by rw [wrap_i64 (by omega) (by omega)]; rfl
    obtain ⟨H2, n1, n2, n3, n4⟩ := newCells_ok H1 [.str q.1.nm] 9 0 (by simp)
    have hrow : Rw H2 1 (.slice H1.next 0 1 1 true 1) [.str q.1.nm] := .mk n2.ro rfl (Nat.le_refl _) rfl
    have hx2 := hx.out n3 fun _ _ q => by cases q
    obtain ⟨x', H3, b1, b2, b3, b4⟩ := append_ok (z := [.str []]) hx2 hrow (by simp [oneC]) (by decide) (by simp only [strs, List.length_map, List.length_cons, List.length_nil]; omega)
    have fl1 : fl [.str []] [(0, 1, .str q.1.nm)] = some [.str q.1.nm] := rfl
    have ho3 : Out [] H H3 := (ho.trans n3).then b3 fun j hj' => .inr (hj j hj')
    have hnx := ho.1
    obtain ⟨x2, H4, c1, c2, c3, c4⟩ := ih (i + 1) H3 x' (done ++ [q.1.nm]) (by omega) ho3 (by unfold strs at b2 ⊢; rw [List.map_append]; exact b2) (fun j hj' => (b4 j hj').elim (hj j) fun q => by have := n3.1; omega) (by simp; omega)
    refine ⟨x2, H4, ?_, by rw [h.drop hq, List.map_cons]; simpa using c2, c3, c4⟩
    rw [ql_outriderref1_Store_Names]
    simp only [bl_outriderref1_Store_Names, l1, l2, d, a1, Nat.add_zero, a4, fl1, n1, b1, es, c1, k_s, k_x, Int.reduceBEq, Int.reduceBNe, Int.reduceLT, Int.reduceLE, Int.reduceGT, Int.reduceGE, Int.reduceNeg]
theorem rnames_c (h : RS H p r R) : ∃ x H', cK (.func (.func 33) [] []) [.ptr p 0] H = some (x, H') ∧ Ow H' 9 1 x (strs (r.fs.map (·.nm))) ∧ Out [] H H' ∧ (∀ j ∈ rid x, H.next ≤ j) := by
  have h0 := fun j1 => rnames_loop h j1 R.l.length 0 H .slice0 [] (by omega) (Out.refl _ _) .nil (fun _ q => by cases q) (Nat.le_refl _)
  obtain ⟨x, H', h1, h2, h3, h4⟩ := h0 fun x H => some (x, H)
  refine ⟨x, H', c_outriderref1_Store_Names ?_, by simpa using h2, h3, h4⟩
  have z : ((0 : Nat) : Int) = 0 := rfl
  rw [z] at h1
  unfold s_outriderref1_Store_Names
  simp only [k_s, k_x, Int.reduceBEq, Int.reduceBNe, Int.reduceLT, Int.reduceLE, Int.reduceGT, Int.reduceGE, Int.reduceNeg]
  exact h1
end
/-!  -/
theorem flat_drop {es : Nat} : ∀ {L : List (List AV)} (a : Nat), (∀ c ∈ L, c.length = es) → L.flatten.drop (a * es) = (L.drop a).flatten
  | L, 0, h => by simp
  | [], a + 1, h => by simp
  | c :: L, a + 1, h => by
    rw [List.flatten_cons, Nat.add_mul, Nat.one_mul, Nat.add_comm, ← List.drop_drop, List.drop_left' (h c (.head _)), List.drop_succ_cons]
    exact flat_drop a fun d hd => h d (.tail _ hd)
theorem flat_take {es : Nat} : ∀ {L : List (List AV)} (a : Nat), (∀ c ∈ L, c.length = es) → L.flatten.take (a * es) = (L.take a).flatten
  | L, 0, h => by simp
  | [], a + 1, h => by simp
  | c :: L, a + 1, h => by
    rw [List.flatten_cons, Nat.add_mul, Nat.one_mul, Nat.add_comm, ← h c (.head _), List.take_length_add_append, h c (.head _), List.take_succ_cons, List.flatten_cons]
    rw [flat_take a fun d hd => h d (.tail _ hd)]
theorem RL.sl {H : Hp} {es : Nat} {x : AV} {L : List (List AV)} (h : RL H es x L) (hes : 0 < es) {a b : Nat} {lo hi : Option AV} (hab : a ≤ b) (hb : b ≤ L.length) (hlo : Bd lo a 0) (hhi : Bd hi b L.length) :
    ∃ x', sll es x lo hi none = some x' ∧ RL H es x' ((L.drop a).take (b - a)) ∧ ∀ j ∈ rid x', j ∈ rid x := by
  obtain ⟨x', h1, h2, h3⟩ := sll_rw h.1 (flatten_len h.2) hes hab hb hlo hhi
  have hd : ∀ c ∈ L.drop a, c.length = es := fun c hc => h.2 c (List.mem_of_mem_drop hc)
  refine ⟨x', h1, ⟨?_, fun c hc => hd c (List.mem_of_mem_take hc)⟩, h3⟩
  rw [flat_drop a h.2, flat_take _ hd] at h2
  exact h2
theorem OL.app {H : Hp} {el es : Nat} {z : List AV} {s x : AV} {L M : List (List AV)} (h : OL H el es s L) (hx : RL H es x M) (ho : ∀ c ∈ M, ∀ v ∈ c, oneC v = true) (hes : 0 < es) (hlen : (L.length + M.length) * es ≤ 16777216) :
    ∃ s' H', app' el es z false s x H = some (s', H') ∧ OL H' el es s' (L ++ M) ∧ Out (rid s) H H' ∧ (∀ j ∈ rid s', j ∈ rid s ∨ H.next ≤ j) := by
  obtain ⟨s', H', h1, h2, h3, h4⟩ := append_ok (z := z) h.1 hx.1 (fun v hv => by
    obtain ⟨c, hc, hv⟩ := List.mem_flatten.1 hv
    exact ho c hc v hv) hes (by rw [flatten_len h.2, flatten_len hx.2, ← Nat.add_mul]; exact hlen)
  refine ⟨s', H', h1, ⟨by rw [List.flatten_append]; exact h2, fun c hc => ?_⟩, h3, h4⟩
  rcases List.mem_append.1 hc with hc | hc
  · exact h.2 c hc
  · exact hx.2 c hc
theorem OL.emp (H : Hp) (el es i off : Nat) : OL H el es (.slice i off 0 0 true es) [] := ⟨.emp, fun c hc => by cases hc⟩
section
variable {H : Hp} {p : Nat} {r : RM} {R : RLay}
theorem rcell_one {q : Fl × AV} (h : oneC q.2 = true) : ∀ v ∈ rcell q, oneC v = true := by
  intro v hv
  simp only [rcell, List.mem_cons, List.mem_nil_iff, or_false] at hv
  rcases hv with rfl | rfl | rfl
  · rfl
  · exact h
  · rfl
theorem RS.ones (h : RS H p r R) : ∀ c ∈ R.l.map rcell, ∀ v ∈ c, oneC v = true := by
  intro c hc v hv
  obtain ⟨q, hq, rfl⟩ := List.mem_map.1 hc
  exact rcell_one (rw_one (h.bs q hq)) v hv
theorem map_set_r (l : List (Fl × AV)) (i : Nat) (q : Fl × AV) : (l.map rcell).set i (rcell q) = (l.set i q).map rcell := by rw [List.map_set]
theorem RS.fsSet (h : RS H p r R) (i : Nat) (q : Fl × AV) : r.fs.set i q.1 = (R.l.set i q).map (·.1) := by rw [h.fs, List.map_set]
/-- how much is sure, set -/
theorem RS.setSure (h : RS H p r R) {i b o : Nat} {q : Fl × AV} (hi : R.l[i]? = some q) (hia : ∀ k, ia 3 R.xf (.int k i) = some (.ptr b o)) {s : Nat} (hs : s ≤ 16777216) :
    ∃ H', st 1 (.ptr b (o + 2)) (.int .i64 s) H = some H' ∧ RS H' p { r with fs := r.fs.set i ⟨q.1.nm, q.1.b, s⟩ } { R with l := R.l.set i (⟨q.1.nm, q.1.b, s⟩, q.2) } ∧ Out (rid R.xf) H H' ∧ H'.next = H.next := by
  obtain ⟨H', h1, h2, h3, h4⟩ := OL.st1 (k := 2) (v := .int .i64 s) h.row (i := i) (c := rcell q) (by rw [List.getElem?_map, hi]; rfl) hia rfl (by decide)
  have hm := List.mem_of_getElem? hi
  have hq := h.szq hi
  have hmem : ∀ z ∈ R.l.set i (⟨q.1.nm, q.1.b, s⟩, q.2), z = (⟨q.1.nm, q.1.b, s⟩, q.2) ∨ z ∈ R.l := fun z hz => (List.mem_or_eq_of_mem_set hz).symm
  refine ⟨H', h1, ⟨h.head.out h3 h.pf, ?_, fun z hz => ?_, h.keep.out h3 fun j hj => (h.pk j hj).2, h.fsSet i (⟨q.1.nm, q.1.b, s⟩, q.2), h.pf, h.pk, fun z hz => ?_, h.room, h.fuse, by show (r.fs.set _ _).length ≤ 64; rw [List.length_set]; exact h.many, fun f hf => ?_⟩, h3, h4⟩
  · rw [← map_set_r]; exact h2
  · rcases hmem z hz with rfl | hz
    · exact (h.bs q hm).out h3 fun j hj => (h.pq q hm j hj).2
    · exact (h.bs z hz).out h3 fun j hj => (h.pq z hz j hj).2
  · rcases hmem z hz with rfl | hz
    · exact h.pq q hm
    · exact h.pq z hz
  · rcases List.mem_or_eq_of_mem_set hf with hf | rfl
    · exact h.sz f hf
    · exact ⟨hq.1, hs, hq.2.2⟩
/-- a file's bytes, set -/
theorem RS.setB (h : RS H p r R) {i b o : Nat} {q : Fl × AV} (hi : R.l[i]? = some q) (hia : ∀ k, ia 3 R.xf (.int k i) = some (.ptr b o)) {H2 : Hp} {y : AV} {bb : List Nat} (ho : Out [] H H2) (hy : Rw H2 1 y (K.bs bb)) (hf : ∀ j ∈ rid y, H.next ≤ j)
    (hl : bb.length ≤ 16777216) (hb : ∀ c ∈ bb, c < 256) :
    ∃ H', st 1 (.ptr b (o + 1)) y H2 = some H' ∧ RS H' p { r with fs := r.fs.set i ⟨q.1.nm, bb, q.1.sure⟩ } { R with l := R.l.set i (⟨q.1.nm, bb, q.1.sure⟩, y) } ∧ Out (rid R.xf) H2 H' ∧ H'.next = H2.next := by
  have h2 := h.out0 ho
  obtain ⟨H', h1, h2', h3, h4⟩ := OL.st1 (k := 1) (v := y) h2.row (i := i) (c := rcell q) (by rw [List.getElem?_map, hi]; rfl) hia (rw_one hy) (by decide)
  have hm := List.mem_of_getElem? hi
  have hq := h.szq hi
  have hlt := h.lt
  have fresh : ∀ j ∈ rid y, j ≠ p ∧ j ∉ rid R.xf := fun j hj => ⟨fun e => by have := hlt p (rft_cases.2 (.inl rfl)); have := hf j hj; omega, fun e => by have := hlt j (rft_cases.2 (.inr (.inl e))); have := hf j hj; omega⟩
  have hmem : ∀ z ∈ R.l.set i (⟨q.1.nm, bb, q.1.sure⟩, y), z = (⟨q.1.nm, bb, q.1.sure⟩, y) ∨ z ∈ R.l := fun z hz => (List.mem_or_eq_of_mem_set hz).symm
  refine ⟨H', h1, ⟨h2.head.out h3 h.pf, ?_, fun z hz => ?_, h2.keep.out h3 fun j hj => (h.pk j hj).2, h.fsSet i (⟨q.1.nm, bb, q.1.sure⟩, y), h.pf, h.pk, fun z hz => ?_, h.room, h.fuse, by show (r.fs.set _ _).length ≤ 64; rw [List.length_set]; exact h.many, fun f hf' => ?_⟩, h3, h4⟩
  · rw [← map_set_r]; exact h2'
  · rcases hmem z hz with rfl | hz
    · exact hy.out h3 fun j hj => (fresh j hj).2
    · exact (h2.bs z hz).out h3 fun j hj => (h.pq z hz j hj).2
  · rcases hmem z hz with rfl | hz
    · exact fresh
    · exact h.pq z hz
  · rcases List.mem_or_eq_of_mem_set hf' with hf' | rfl
    · exact h.sz f hf'
    · exact ⟨hl, hq.2.1, hb⟩
/-- another row of files -/
theorem RS.setRow (h : RS H p r R) {H2 : Hp} {s : AV} {l : List (Fl × AV)} (ho : Out [] H H2) (hs : OL H2 76 3 s (l.map rcell)) (hf : ∀ j ∈ rid s, H.next ≤ j) (hb : ∀ q ∈ l, Rw H 1 q.2 (K.bs q.1.b)) (hp : ∀ q ∈ l, p ∉ rid q.2) (hn : l.length ≤ 64)
    (hz : ∀ q ∈ l, q.1.b.length ≤ 16777216 ∧ q.1.sure ≤ 16777216 ∧ ∀ c ∈ q.1.b, c < 256) :
    ∃ H', st 1 (.ptr p 1) s H2 = some H' ∧ RS H' p { r with fs := l.map (·.1) } { R with l := l, xf := s } ∧ Out [p] H2 H' ∧ H'.next = H2.next := by
  have h2 := h.out0 ho
  obtain ⟨H', h1, h3, h4, h5⟩ := h2.head.st (o := 1) (by simp) (v := s) (rw_one hs.1.rw)
  have hlt := h.lt
  have hpl := hlt p (rft_cases.2 (.inl rfl))
  have np : ∀ j, j ≠ p → j ∉ [p] := fun j hj q => hj (List.mem_singleton.1 q)
  have hps : ∀ j ∈ rid s, j ≠ p := fun j hj e => by have := hf j hj; omega
  refine ⟨H', h1, ⟨h3, hs.out h4 fun j hj => np j (hps j hj), fun q hq => ((hb q hq).out ho fun j _ z => by cases z).out h4 fun j hj => np j fun e => hp q hq (e ▸ hj), h2.keep.out h4 fun j hj => np j (h.pk j hj).1, rfl, fun e => hps p e rfl, fun j hj => ⟨(h.pk j hj).1, fun e => ?_⟩, fun q hq j hj => ⟨fun e => hp q hq (e ▸ hj), fun e => ?_⟩, h.room, h.fuse, by simpa using hn, fun f hf' => ?_⟩, h4, h5⟩
  · have := h.keep.lt j hj; have := hf j e; omega
  · have := (hb q hq).lt j hj; have := hf j e; omega
  · obtain ⟨q, hq, rfl⟩ := List.mem_map.1 hf'
    exact hz q hq
theorem RS.szl (h : RS H p r R) : ∀ q ∈ R.l, q.1.b.length ≤ 16777216 ∧ q.1.sure ≤ 16777216 ∧ ∀ c ∈ q.1.b, c < 256 := fun q hq => h.sz q.1 (by rw [h.fs]; exact List.mem_map_of_mem hq)
theorem RS.pl (h : RS H p r R) : ∀ q ∈ R.l, p ∉ rid q.2 := fun q hq e => (h.pq q hq p e).1 rfl
/-- a file taken out -/
theorem gone_c (h : RS H p r R) {i : Nat} (hi : i < R.l.length) : ∃ H' s, cK (.func (.func 46) [] []) [.ptr p 0, .int .i64 i] H = some (.tuple [], H') ∧ RS H' p { r with fs := r.fs.eraseIdx i } { R with l := R.l.eraseIdx i, xf := s } ∧ Out [p] H H' ∧ (∀ j ∈ rid s, H.next ≤ j) := by
  have hm := h.many
  rw [h.len] at hm
  have l1 := h.ld_f
  obtain ⟨H2, n1, n2, n3, n4⟩ := newCells_ok H [] 76 0 (by simp)
  obtain ⟨x1, s1, s2, s3⟩ := RL.sl h.row.rl (by decide) (a := 0) (b := i) (lo := none) (hi := some (.int .i64 (i : Nat))) (Nat.zero_le _) (by rw [List.length_map]; omega) (Bd.no 0) (Bd.yes _ _ _)
  have h2 := h.out0 n3
  obtain ⟨y1, H3, a1, a2, a3, a4⟩ := OL.app (z := [.str [], .slice0, .int .i64 0]) (OL.emp H2 76 3 H.next 0) (s2.out0 n3) (fun c hc => h.ones c (List.mem_of_mem_drop (List.mem_of_mem_take hc))) (by decide) (by
    have : ((List.map rcell R.l).drop 0 |>.take (i - 0)).length ≤ R.l.length := by simp <;> omega
    simp only [List.length_nil]; omega)
  have e3 : rid (.slice H.next 0 0 0 true 3) = [] := rfl
  rw [e3] at a3 a4
  have o3 := n3.trans a3
  have h3 := h.out0 o3
  have l3 := h3.ld_f
  obtain ⟨x2, t1, t2, t3⟩ := RL.sl h3.row.rl (by decide) (a := i + 1) (b := R.l.length) (lo := some (.int .i64 ((i + 1 : Nat) : Int))) (hi := none) (by omega) (by rw [List.length_map]; omega) (Bd.yes _ _ _) (by rw [List.length_map]; exact Bd.no _)
  obtain ⟨y2, H4, b1, b2, b3, b4⟩ := OL.app (z := [.str [], .slice0, .int .i64 0]) a2 t2 (fun c hc => h.ones c (List.mem_of_mem_drop (List.mem_of_mem_take hc))) (by decide) (by
    have q1 : ((List.map rcell R.l).drop 0 |>.take (i - 0)).length ≤ R.l.length := by simp <;> omega
    have q2 : ((List.map rcell R.l).drop (i + 1) |>.take (R.l.length - (i + 1))).length ≤ R.l.length := by simp <;> omega
    rw [List.nil_append]; omega)
  have n3l := n3.1
  have a3l := a3.1
  have fy1 : ∀ j ∈ rid y1, H.next ≤ j := fun j hj => (a4 j hj).elim (fun q => by cases q) fun q => by omega
  have fy2 : ∀ j ∈ rid y2, H.next ≤ j := fun j hj => (b4 j hj).elim (fy1 j) fun q => by omega
  have o4 : Out [] H H4 := o3.then b3 fun j hj => .inr (fy1 j hj)
  have erow : ([] ++ ((List.map rcell R.l).drop 0).take (i - 0)) ++ ((List.map rcell R.l).drop (i + 1)).take (R.l.length - (i + 1)) = (R.l.eraseIdx i).map rcell := by
    rw [List.eraseIdx_eq_take_drop_succ, List.map_append, List.map_take, List.map_drop, List.nil_append, List.drop_zero, Nat.sub_zero]
    congr 1
    rw [List.take_of_length_le (by simp)]
  rw [erow] at b2
  have hsub : ∀ q ∈ R.l.eraseIdx i, q ∈ R.l := fun q hq => (List.eraseIdx_sublist _ _).subset hq
  obtain ⟨H5, c1, c2, c3, c4⟩ := h.setRow o4 b2 fy2 (fun q hq => h.bs q (hsub q hq)) (fun q hq => h.pl q (hsub q hq)) (Nat.le_trans (List.eraseIdx_sublist _ _).length_le hm) (fun q hq => h.szl q (hsub q hq))
  have efs : (R.l.eraseIdx i).map (·.1) = r.fs.eraseIdx i := by rw [h.fs, List.eraseIdx_eq_take_drop_succ, List.eraseIdx_eq_take_drop_succ, List.map_append, List.map_take, List.map_drop]
  rw [efs] at c2
  have es : IntKind.wrap .i64 ((i : Int) + 1) = ((i + 1 : Nat) : Int) := by rw [wrap_i64 (by omega) (by omega)]; rfl
  refine ⟨H5, y2, c_outriderref1_Store_gone ?_, c2, (o4.mono fun j hj => by cases hj).trans c3, fy2⟩
  have sm := same_rw h.row.1.rw
  have sx2 := same_rw t2.1
  have sx1 := same_rw s2.1
  have f0 : fl [] [] = some [] := rfl
  unfold s_outriderref1_Store_gone
  simp only [f0, n1, l1, s1, a1, l3, es, t1, b1, c1, SM_t sm, SM_t sx2, SM_t sx1, k_s, k_x, Int.reduceBEq, Int.reduceBNe, Int.reduceLT, Int.reduceLE, Int.reduceGT, Int.reduceGE, Int.reduceNeg]
/-- a file put in -/
theorem ins_c (h : RS H p r R) {k : Nat} (hk : k ≤ R.l.length) (hn : R.l.length < 64) {f : Fl} {y : AV} (hy : Rw H 1 y (K.bs f.b)) (hp : p ∉ rid y) (hz : f.b.length ≤ 16777216 ∧ f.sure ≤ 16777216 ∧ ∀ c ∈ f.b, c < 256) :
    ∃ H2 H3 H4 H5 H6 H7 x1 y1 y2 x2 y3, newCells H [] 76 0 = some (H.next, H2) ∧ sll 3 R.xf none (some (.int .i64 (k : Nat))) none = some x1 ∧
      app' 76 3 [.str [], .slice0, .int .i64 0] false (.slice H.next 0 0 0 true 3) x1 H2 = some (y1, H3) ∧ newCells H3 [.str f.nm, y, .int .i64 f.sure] 76 0 = some (H3.next, H4) ∧
      app' 76 3 [.str [], .slice0, .int .i64 0] false y1 (.slice H3.next 0 1 1 true 3) H4 = some (y2, H5) ∧ sll 3 R.xf (some (.int .i64 (k : Nat))) none none = some x2 ∧
      app' 76 3 [.str [], .slice0, .int .i64 0] false y2 x2 H5 = some (y3, H6) ∧ st 1 (.ptr p 1) y3 H6 = some H7 ∧
      RS H7 p { r with fs := r.fs.take k ++ f :: r.fs.drop k } { R with l := R.l.take k ++ (f, y) :: R.l.drop k, xf := y3 } ∧ Out [] H H2 ∧ Out [] H H3 ∧ Out [] H H5 ∧ Out [] H H6 ∧ Out [p] H H7 ∧ (∀ j ∈ rid y3, H.next ≤ j) ∧ same x1 x1 = true ∧ same x2 x2 = true := by
  obtain ⟨H2, n1, n2, n3, n4⟩ := newCells_ok H [] 76 0 (by simp)
  obtain ⟨x1, s1, s2, s3⟩ := RL.sl h.row.rl (by decide) (a := 0) (b := k) (lo := none) (hi := some (.int .i64 (k : Nat))) (Nat.zero_le _) (by rw [List.length_map]; omega) (Bd.no 0) (Bd.yes _ _ _)
  have q1 : ((List.map rcell R.l).drop 0 |>.take (k - 0)).length ≤ R.l.length := by simp <;> omega
  obtain ⟨y1, H3, a1, a2, a3, a4⟩ := OL.app (z := [.str [], .slice0, .int .i64 0]) (OL.emp H2 76 3 H.next 0) (s2.out0 n3) (fun c hc => h.ones c (List.mem_of_mem_drop (List.mem_of_mem_take hc))) (by decide) (by simp only [List.length_nil]; omega)
  have e3 : rid (.slice H.next 0 0 0 true 3) = [] := rfl
  rw [e3] at a3 a4
  have o3 := n3.trans a3
  obtain ⟨H4, m1, m2, m3, m4⟩ := newCells_ok H3 [.str f.nm, y, .int .i64 f.sure] 76 0 (by simp)
  have o4 := o3.trans m3
  have hone : ∀ v ∈ [AV.str f.nm, y, .int .i64 f.sure], oneC v = true := rcell_one (q := (f, y)) (rw_one hy)
  have hrow : RL H4 3 (.slice H3.next 0 1 1 true 3) [[.str f.nm, y, .int .i64 f.sure]] := ⟨.mk m2.ro rfl (Nat.le_refl _) rfl, fun c hc => by rw [List.mem_singleton] at hc; subst hc; rfl⟩
  obtain ⟨y2, H5, b1, b2, b3, b4⟩ := OL.app (z := [.str [], .slice0, .int .i64 0]) (a2.out m3 fun _ _ q => by cases q) hrow (fun c hc => by rw [List.mem_singleton] at hc; subst hc; exact hone) (by decide) (by rw [List.nil_append]; simp only [List.length_cons, List.length_nil]; omega)
  have n3l := n3.1
  have a3l := a3.1
  have m3l := m3.1
  have fy1 : ∀ j ∈ rid y1, H.next ≤ j := fun j hj => (a4 j hj).elim (fun q => by cases q) fun q => by omega
  have fy2 : ∀ j ∈ rid y2, H.next ≤ j := fun j hj => (b4 j hj).elim (fy1 j) fun q => by omega
  have o5 : Out [] H H5 := o4.then b3 fun j hj => .inr (fy1 j hj)
  have h5 := h.out0 o5
  obtain ⟨x2, t1, t2, t3⟩ := RL.sl h5.row.rl (by decide) (a := k) (b := R.l.length) (lo := some (.int .i64 (k : Nat))) (hi := none) (by omega) (by rw [List.length_map]; omega) (Bd.yes _ _ _) (by rw [List.length_map]; exact Bd.no _)
  have q2 : ((List.map rcell R.l).drop k |>.take (R.l.length - k)).length ≤ R.l.length := by simp <;> omega
  obtain ⟨y3, H6, c1, c2, c3, c4⟩ := OL.app (z := [.str [], .slice0, .int .i64 0]) b2 t2 (fun c hc => h.ones c (List.mem_of_mem_drop (List.mem_of_mem_take hc))) (by decide) (by rw [List.nil_append, List.length_append]; simp only [List.length_cons, List.length_nil]; omega)
  have o5l := o5.1
  have fy3 : ∀ j ∈ rid y3, H.next ≤ j := fun j hj => (c4 j hj).elim (fy2 j) fun q => by omega
  have o6 : Out [] H H6 := o5.then c3 fun j hj => .inr (fy2 j hj)
  have erow : (([] ++ ((List.map rcell R.l).drop 0).take (k - 0)) ++ [[.str f.nm, y, .int .i64 f.sure]]) ++ ((List.map rcell R.l).drop k).take (R.l.length - k) = (R.l.take k ++ (f, y) :: R.l.drop k).map rcell := by
    rw [List.map_append, List.map_cons, List.map_take, List.map_drop, List.nil_append, List.drop_zero, Nat.sub_zero, List.append_assoc, List.singleton_append]
    congr 2
    rw [List.take_of_length_le (by simp)]
  rw [erow] at c2
  have hmem : ∀ q ∈ R.l.take k ++ (f, y) :: R.l.drop k, q = (f, y) ∨ q ∈ R.l := fun q hq => by
    rcases List.mem_append.1 hq with hq | hq
    · exact .inr (List.mem_of_mem_take hq)
    · rcases List.mem_cons.1 hq with hq | hq
      · exact .inl hq
      · exact .inr (List.mem_of_mem_drop hq)
  obtain ⟨H7, d1, d2, d3, d4⟩ := h.setRow o6 c2 fy3 (fun q hq => (hmem q hq).elim (fun e => e ▸ hy) (h.bs q)) (fun q hq => (hmem q hq).elim (fun e => e ▸ hp) (h.pl q)) (by simp <;> omega) (fun q hq => (hmem q hq).elim (fun e => e ▸ hz) (h.szl q))
  have efs : (R.l.take k ++ (f, y) :: R.l.drop k).map (·.1) = r.fs.take k ++ f :: r.fs.drop k := by rw [h.fs, List.map_append, List.map_cons, List.map_take, List.map_drop]
  rw [efs] at d2
  exact ⟨H2, H3, H4, H5, H6, H7, x1, y1, y2, x2, y3, n1, s1, a1, m1, b1, t1, c1, d1, d2, n3, o3, o5, o6, (o6.mono fun j hj => by cases hj).trans d3, fy3, same_rw s2.1, same_rw t2.1⟩
end
/-!  -/
def crL : List Fl → List Int → List Fl
  | [], _ => []
  | f :: r, kl => if f.b.length = f.sure then f :: crL r kl else ⟨f.nm, f.b.take (f.sure + min (kn kl).toNat (f.b.length - f.sure)), f.sure + min (kn kl).toNat (f.b.length - f.sure)⟩ :: crL r kl.tail
def crR (r : RM) (kl : List Int) : RM := if r.off = true then r else { r with off := true, fuse := 0, fs := crL r.fs kl }
abbrev Sok (fs : List Fl) : Prop := ∀ f ∈ fs, f.sure ≤ f.b.length
theorem set_take {α : Type} {l : List α} {i : Nat} {a : α} (h : i < l.length) : (l.set i a).take (i + 1) = l.take i ++ [a] := by
  rw [List.take_set, List.take_succ_eq_append_getElem h, List.set_append_right _ _ (by simp <;> omega)]
  simp [Nat.min_eq_left (Nat.le_of_lt h)]
theorem set_drop {α : Type} {l : List α} {i : Nat} {a : α} : (l.set i a).drop (i + 1) = l.drop (i + 1) := by
  rw [List.drop_set, if_pos (by omega)]
section
variable {H : Hp} {p : Nat} {r : RM} {R : RLay}
theorem kn_drop {kl : List Int} {a : Nat} : kn (kl.drop a) = if a < kl.length then kl.getD a 0 else 0 := by
  split
  · rename_i h
    rw [List.drop_eq_getElem_cons h, List.getD_eq_getElem?_getD, List.getElem?_eq_getElem h]; rfl
  · rw [List.drop_eq_nil_of_le (by omega)]; rfl
theorem crash_loop (kv : AV) (kl : List Int) (hkl : kl.length ≤ 16777216) (j4 : Am.K.Fn 1) : ∀ (m i at' : Nat) (H : Hp) (r : RM) (R : RLay), RS H p r R → i + m = R.l.length → at' ≤ i → Sok r.fs → Rw H 1 kv (ints kl) → (∀ j ∈ rid kv, j ∉ rid R.xf) →
    ∃ H' R', l_outriderref1_Store_Crash JN GO cK j4 (.ptr p 0) kv (.int .i64 at') (.int .i64 i) H = j4 (.ptr p 0) H' ∧ RS H' p { r with fs := r.fs.take i ++ crL (r.fs.drop i) (kl.drop at') } R' ∧ Rgo p H R H' R' ∧ R'.xf = R.xf ∧ R'.xk = R.xk := by
  intro m
  induction m with
  | zero =>
    intro i at' H r R h hi ha hs hk hkd
    have hm := h.many
    rw [h.len] at hm
    have l1 := h.ld_f
    have l2 := h.lenx
    obtain rfl : i = R.l.length := by omega
    have d : decide (((R.l.length : Nat) : Int) < ((R.l.length : Nat) : Int)) = false := decide_eq_false (by omega)
    have e : r.fs.take R.l.length ++ crL (r.fs.drop R.l.length) (kl.drop at') = r.fs := by
      rw [List.drop_eq_nil_of_le (by rw [h.len]; omega), List.take_of_length_le (by rw [h.len]; omega)]
      simp [crL]
    refine ⟨H, R, ?_, by rw [e]; exact h, Rgo.refl _ _ _, rfl, rfl⟩
    rw [ql_outriderref1_Store_Crash]
    simp only [bl_outriderref1_Store_Crash, l1, l2, d, k_s, k_x, Int.reduceBEq, Int.reduceBNe, Int.reduceLT, Int.reduceLE, Int.reduceGT, Int.reduceGE, Int.reduceNeg]
  | succ m ih =>
    intro i at' H r R h hi ha hs hk hkd
    have hm := h.many
    rw [h.len] at hm
    have l1 := h.ld_f
    have l2 := h.lenx
    have hlt : i < R.l.length := by omega
    obtain ⟨q, hq⟩ : ∃ q, R.l[i]? = some q := ⟨_, List.getElem?_eq_getElem hlt⟩
    obtain ⟨b, o, a1, a2, a3, a4, a5, a6⟩ := h.at hq
    have hsz := h.szq hq
    have hsu := hs _ (List.mem_of_getElem? (h.fsAt hq))
    have hy := (h.bs q (List.mem_of_getElem? hq)).len1
    rw [bs_len] at hy
    have d : decide ((i : Int) < ((R.l.length : Nat) : Int)) = true := decide_eq_true (by omega)
    have es : IntKind.wrap .i64 ((i : Int) + 1) = ((i + 1 : Nat) : Int) := by rw [wrap_i64 (by omega) (by omega)]; rfl
    have wn : IntKind.wrap .i64 ((q.1.b.length : Nat) - (q.1.sure : Nat) : Int) = ((q.1.b.length - q.1.sure : Nat) : Int) := by rw [wrap_i64 (by omega) (by omega)]; omega
    have hfl : i < r.fs.length := by rw [h.len]; exact hlt
    by_cases heq : q.1.b.length = q.1.sure
    · have z : (((q.1.b.length - q.1.sure : Nat) : Int) == 0) = true := by rw [heq]; simp
      obtain ⟨H', R', e1, e2, e3, e4, e5⟩ := ih (i + 1) at' H r R h (by omega) (by omega) hs hk hkd
      have ef : r.fs.take (i + 1) ++ crL (r.fs.drop (i + 1)) (kl.drop at') = r.fs.take i ++ crL (r.fs.drop i) (kl.drop at') := by
        rw [h.drop hq, crL, if_pos heq, List.take_succ_eq_append_getElem hfl, List.append_assoc, List.singleton_append]
        have := h.fsAt hq
        rw [List.getElem?_eq_getElem hfl] at this
        rw [Option.some.inj this]
      rw [ef] at e2
      refine ⟨H', R', ?_, e2, e3, e4, e5⟩
      rw [ql_outriderref1_Store_Crash]
      simp only [bl_outriderref1_Store_Crash, l1, l2, d, a1, a5, a6, hy, wn, z, es, e1, k_s, k_x, Int.reduceBEq, Int.reduceBNe, Int.reduceLT, Int.reduceLE, Int.reduceGT, Int.reduceGE, Int.reduceNeg]
    · have z : (((q.1.b.length - q.1.sure : Nat) : Int) == 0) = false := by rw [beq_eq_false_iff_ne]; omega
      have hkl1 := hk.len1
      rw [show (ints kl).length = kl.length from by simp [ints]] at hkl1
      generalize hnn : min (kn (kl.drop at')).toNat (q.1.b.length - q.1.sure) = n at *
      have hn : n ≤ q.1.b.length - q.1.sure := by omega
      have ws : IntKind.wrap .i64 ((q.1.sure : Nat) + (n : Nat) : Int) = ((q.1.sure + n : Nat) : Int) := by rw [wrap_i64 (by omega) (by omega)]; omega
      have wa : IntKind.wrap .i64 ((at' : Int) + 1) = ((at' + 1 : Nat) : Int) := by rw [wrap_i64 (by omega) (by omega)]; rfl
      obtain ⟨H1, s1, s2, s3, s4⟩ := h.setSure hq a1 (s := q.1.sure + n) (by omega)
      have hq1 : (R.l.set i (⟨q.1.nm, q.1.b, q.1.sure + n⟩, q.2))[i]? = some (⟨q.1.nm, q.1.b, q.1.sure + n⟩, q.2) := by rw [List.getElem?_set_self hlt]
      obtain ⟨b1, o1, a1', a2', a3', a4', a5', a6'⟩ := s2.at hq1
      have eb := a1 .i64
      rw [a1' .i64] at eb
      injection eb with eb
      injection eb with eb eo
      subst eb
      subst eo
      have l1' := s2.ld_f
      obtain ⟨H2, n1, n2, n3, n4⟩ := newCells_ok H1 [] 5 0 (by simp)
      have hyr := s2.bs _ (List.mem_of_getElem? hq1)
      obtain ⟨x1, t1, t2, t3⟩ := sll_rw (n := q.1.b.length) hyr (by rw [bs_len, Nat.mul_one]) (by decide) (a := 0) (b := q.1.sure + n) (lo := none) (hi := some (.int .i64 ((q.1.sure + n : Nat) : Int))) (by omega) (by omega) (Bd.no 0) (Bd.yes _ _ _)
      rw [Nat.zero_mul, List.drop_zero, Nat.sub_zero, Nat.mul_one, ← bs_take] at t2
      obtain ⟨y, H3, c1, c2, c3, c4⟩ := append_ok (z := [.int .u8 0]) (Ow.emp (H := H2) (el := 5) (es := 1) (i := H1.next) (off := 0)) (t2.out n3 fun _ _ q => by cases q) (bs_one _) (by decide) (by rw [bs_len, List.length_take]; simp only [List.length_nil]; omega)
      have e3 : rid (.slice H1.next 0 0 0 true 1) = [] := rfl
      rw [e3] at c3 c4
      rw [List.nil_append] at c2
      have o3 := n3.trans c3
      have n3l := n3.1
      obtain ⟨H4, d1, d2, d3, d4⟩ := s2.setB hq1 a1' (bb := q.1.b.take (q.1.sure + n)) o3 c2.rw (fun j hj => (c4 j hj).elim (fun q => by cases q) fun q => by omega) (by rw [List.length_take]; omega) (fun c hc => hsz.2.2 c (List.mem_of_mem_take hc))
      have l1'' := (s2.out0 o3).ld_f
      have hs1 : Sok ((r.fs.set i ⟨q.1.nm, q.1.b, q.1.sure + n⟩).set i ⟨q.1.nm, q.1.b.take (q.1.sure + n), q.1.sure + n⟩) := by
        intro f hf
        rw [List.set_set] at hf
        rcases List.mem_or_eq_of_mem_set hf with hf | rfl
        · exact hs f hf
        · show q.1.sure + n ≤ (q.1.b.take (q.1.sure + n)).length
          rw [List.length_take]; omega
      have oo : Out (rid R.xf) H H4 := (s3.trans (o3.mono fun _ q => by cases q)).trans d3
      have hkv4 := hk.out oo hkd
      obtain ⟨H', R', e1, e2, e3', e4, e5⟩ := ih (i + 1) (at' + 1) H4 _ _ d2 (by simp; omega) (by omega) hs1 hkv4 hkd
      have ef : ((r.fs.set i ⟨q.1.nm, q.1.b, q.1.sure + n⟩).set i ⟨q.1.nm, q.1.b.take (q.1.sure + n), q.1.sure + n⟩).take (i + 1) ++ crL (((r.fs.set i ⟨q.1.nm, q.1.b, q.1.sure + n⟩).set i ⟨q.1.nm, q.1.b.take (q.1.sure + n), q.1.sure + n⟩).drop (i + 1)) (kl.drop (at' + 1)) = r.fs.take i ++ crL (r.fs.drop i) (kl.drop at') := by
        rw [List.set_set, set_take hfl, set_drop, h.drop hq, crL, if_neg heq, hnn, List.append_assoc, List.singleton_append, List.tail_drop]
      have e2' : RS H' p { r with fs := r.fs.take i ++ crL (r.fs.drop i) (kl.drop at') } R' := by rw [← ef]; exact e2
      have rg : Rgo p H R H4 { R with l := (R.l.set i (⟨q.1.nm, q.1.b, q.1.sure + n⟩, q.2)).set i (⟨q.1.nm, q.1.b.take (q.1.sure + n), q.1.sure + n⟩, y) } := by
        refine ⟨oo.mono fun j hj => rft_cases.2 (.inr (.inl hj)), fun j hj => ?_⟩
        rcases rft_cases.1 hj with rfl | hj | hj | ⟨z, hz, hj⟩
        · exact .inl (rft_cases.2 (.inl rfl))
        · exact .inl (rft_cases.2 (.inr (.inl hj)))
        · exact .inl (rft_cases.2 (.inr (.inr (.inl hj))))
        · simp only [List.set_set] at hz
          rcases List.mem_or_eq_of_mem_set hz with hz | rfl
          · exact .inl (rft_cases.2 (.inr (.inr (.inr ⟨z, hz, hj⟩))))
          · exact .inr ((c4 j hj).elim (fun q => by cases q) fun q => by omega)
      refine ⟨H', R', ?_, e2', rg.trans e3', e4, e5⟩
      have sm := same_rw h.row.1.rw
      have f0 : fl [] [] = some [] := rfl
      rw [ql_outriderref1_Store_Crash]
      by_cases hat : at' < kl.length
      · have hka := hk.ia1 (i := at') (v := .int .i64 (kl.getD at' 0)) (by simp [ints, List.getD_eq_getElem?_getD, List.getElem?_eq_getElem hat]) .i64
        obtain ⟨qk, k1, k2⟩ := hka
        have dat : decide ((at' : Int) < ((kl.length : Nat) : Int)) = true := decide_eq_true (by omega)
        have kd : kn (kl.drop at') = kl.getD at' 0 := by rw [kn_drop, if_pos hat]
        rw [kd] at hnn
        generalize kl.getD at' 0 = K at *
        by_cases hneg : K < 0
        · have b1 : decide (K < 0) = true := decide_eq_true hneg
          have b2 : decide ((0 : Int) < ((q.1.b.length - q.1.sure : Nat) : Int)) = true := decide_eq_true (by omega)
          obtain rfl : n = 0 := by omega
          have ws0 : IntKind.wrap .i64 ((q.1.sure : Nat) + 0 : Int) = ((q.1.sure + 0 : Nat) : Int) := ws
          simp only [bl_outriderref1_Store_Crash, l1, l2, d, a1, a5, a6, hy, wn, z, hkl1, dat, k1, k2, wa, b1, b2, ws0, s1, l1', f0, n1, a1', a5', a6', t1, c1, d1, l1'', SM_t sm, es, e1, k_s, k_x, Int.reduceBEq, Int.reduceBNe, Int.reduceLT, Int.reduceLE, Int.reduceGT, Int.reduceGE, Int.reduceNeg]
        · have b1 : decide (K < 0) = false := decide_eq_false hneg
          by_cases hb : K < ((q.1.b.length - q.1.sure : Nat) : Int)
          · have b2 : decide (K < ((q.1.b.length - q.1.sure : Nat) : Int)) = true := decide_eq_true hb
            obtain ⟨k', rfl⟩ : ∃ k' : Nat, K = k' := ⟨K.toNat, by omega⟩
            obtain rfl : n = k' := by omega
            simp only [bl_outriderref1_Store_Crash, l1, l2, d, a1, a5, a6, hy, wn, z, hkl1, dat, k1, k2, wa, b1, b2, ws, s1, l1', f0, n1, a1', a5', a6', t1, c1, d1, l1'', SM_t sm, es, e1, k_s, k_x, Int.reduceBEq, Int.reduceBNe, Int.reduceLT, Int.reduceLE, Int.reduceGT, Int.reduceGE, Int.reduceNeg]
          · have b2 : decide (K < ((q.1.b.length - q.1.sure : Nat) : Int)) = false := decide_eq_false hb
            obtain rfl : n = q.1.b.length - q.1.sure := by omega
            simp only [bl_outriderref1_Store_Crash, l1, l2, d, a1, a5, a6, hy, wn, z, hkl1, dat, k1, k2, wa, b1, b2, ws, s1, l1', f0, n1, a1', a5', a6', t1, c1, d1, l1'', SM_t sm, es, e1, k_s, k_x, Int.reduceBEq, Int.reduceBNe, Int.reduceLT, Int.reduceLE, Int.reduceGT, Int.reduceGE, Int.reduceNeg]
      · have dat : decide ((at' : Int) < ((kl.length : Nat) : Int)) = false := decide_eq_false (by omega)
        have kd : kn (kl.drop at') = 0 := by rw [kn_drop, if_neg hat]
        rw [kd] at hnn
        have b1 : decide ((0 : Int) < 0) = false := rfl
        have b2 : decide ((0 : Int) < ((q.1.b.length - q.1.sure : Nat) : Int)) = true := decide_eq_true (by omega)
        obtain rfl : n = 0 := by omega
        have ws0 : IntKind.wrap .i64 ((q.1.sure : Nat) + 0 : Int) = ((q.1.sure + 0 : Nat) : Int) := ws
        simp only [bl_outriderref1_Store_Crash, l1, l2, d, a1, a5, a6, hy, wn, z, hkl1, dat, wa, b1, b2, ws0, s1, l1', f0, n1, a1', a5', a6', t1, c1, d1, l1'', SM_t sm, es, e1, k_s, k_x, Int.reduceBEq, Int.reduceBNe, Int.reduceLT, Int.reduceLE, Int.reduceGT, Int.reduceGE, Int.reduceNeg]
end
/-!  -/
section
variable {H : Hp} {p : Nat} {r : RM} {R : RLay}
/-- the head turns -/
theorem RS.setHd {H' : Hp} {off : Bool} {fuse : Int} {xk : AV} {kl : List Int} (h : RS H p r R) (hc : C0 H' p [.int .i64 r.room, R.xf, .bool off, .int .i64 fuse, xk]) (ho : Out [p] H H') (hf : -9223372036854775808 ≤ fuse ∧ fuse ≤ 9223372036854775807) (hk : Rw H' 1 xk (ints kl)) (hkd : ∀ j ∈ rid xk, j ≠ p ∧ j ∉ rid R.xf) :
    RS H' p { r with off := off, fuse := fuse, keep := kl } { R with xk := xk } := by
  have np : ∀ j, j ≠ p → j ∉ [p] := fun j hj q => hj (List.mem_singleton.1 q)
  exact ⟨hc, h.row.out ho fun j hj => np j fun e => h.pf (e ▸ hj), fun q hq => (h.bs q hq).out ho fun j hj => np j (h.pq q hq j hj).1, hk, h.fs, h.pf, hkd, h.pq, h.room, hf, h.many, h.sz⟩
theorem Rgo.hd {H' : Hp} {xk : AV} (ho : Out [p] H H') (hk : ∀ j ∈ rid xk, j ∈ rid R.xk ∨ H.next ≤ j) : Rgo p H R H' { R with xk := xk } := by
  refine ⟨ho.mono fun j hj => by rw [List.mem_singleton.1 hj]; exact rft_cases.2 (.inl rfl), fun j hj => ?_⟩
  rcases rft_cases.1 hj with rfl | hj | hj | hj
  · exact .inl (rft_cases.2 (.inl rfl))
  · exact .inl (rft_cases.2 (.inr (.inl hj)))
  · exact (hk j hj).imp (fun q => rft_cases.2 (.inr (.inr (.inl q)))) id
  · exact .inl (rft_cases.2 (.inr (.inr (.inr hj))))
theorem rcrash_c (h : RS H p r R) (hs : Sok r.fs) {kv : AV} {kl : List Int} (hkl : kl.length ≤ 16777216) (hk : Rw H 1 kv (ints kl)) (hkd : ∀ j ∈ rid kv, j ∉ rid R.xf) :
    ∃ H' R', cK (.func (.func 30) [] []) [.ptr p 0, kv] H = some (.tuple [], H') ∧ RS H' p (crR r kl) R' ∧ Rgo p H R H' R' := by
  have l1 := h.ld_off
  cases ho : r.off with
  | true =>
    rw [ho] at l1
    refine ⟨H, R, c_outriderref1_Store_Crash ?_, by unfold crR; rw [if_pos ho]; exact h, Rgo.refl _ _ _⟩
    unfold s_outriderref1_Store_Crash
    simp only [l1, k_s, k_x, Int.reduceBEq, Int.reduceBNe, Int.reduceLT, Int.reduceLE, Int.reduceGT, Int.reduceGE, Int.reduceNeg]
  | false =>
    rw [ho] at l1
    have h0 := fun j4 => crash_loop kv kl hkl j4 R.l.length 0 0 H r R h (by omega) (Nat.le_refl _) hs hk hkd
    have z : ((0 : Nat) : Int) = 0 := rfl
    simp only [z, List.take_zero, List.drop_zero, List.nil_append] at h0
    obtain ⟨H1, R1, e1, e2, e3, e4, e5⟩ := h0 (fun x140 h141 =>
      B1 (nilA x140) fun v142 => B1 (fa 2 v142) fun v143 => B1 (st 1 v143 (.bool true) h141) fun h144 => B1 (nilA x140) fun v145 => B1 (fa 3 v145) fun v146 => B1 (st 1 v146 (.int .i64 0) h144) fun h147 => some (.tuple [], h147))
    obtain ⟨H2, a1, a2, a3, a4⟩ := e2.head.st (o := 2) (by simp) (v := .bool true) rfl
    obtain ⟨H3, b1, b2, b3, b4⟩ := a2.st (o := 3) (by simp) (v := .int .i64 0) rfl
    have o3 := a3.trans b3
    have hd := e2.setHd (off := true) (fuse := 0) (xk := R1.xk) (kl := r.keep) b2 o3 (by omega) (e2.keep.out o3 fun j hj q => (e2.pk j hj).1 (List.mem_singleton.1 q)) e2.pk
    refine ⟨H3, _, c_outriderref1_Store_Crash ?_, ?_, e3.trans (Rgo.hd o3 fun j hj => .inl hj)⟩
    · unfold s_outriderref1_Store_Crash
      simp only [l1, k_s, k_x, Int.reduceBEq, Int.reduceBNe, Int.reduceLT, Int.reduceLE, Int.reduceGT, Int.reduceGE, Int.reduceNeg]
      rw [e1]
      simp only [a1, b1, k_s, k_x, Int.reduceBEq, Int.reduceBNe, Int.reduceLT, Int.reduceLE, Int.reduceGT, Int.reduceGE, Int.reduceNeg]
    · unfold crR
      rw [if_neg (by rw [ho]; simp)]
      exact hd
def blM (r : RM) : RM := if r.fuse < 1 then r else if r.fuse = 1 then crR { r with fuse := 0 } r.keep else { r with fuse := r.fuse - 1 }
theorem blown_c (h : RS H p r R) (hs : Sok r.fs) (hkl : r.keep.length ≤ 16777216) :
    ∃ H' R', cK (.func (.func 45) [] []) [.ptr p 0] H = some (.bool (r.fuse == 1), H') ∧ RS H' p (blM r) R' ∧ Rgo p H R H' R' ∧ ((r.fuse == 1) = false → Out [p] H H' ∧ R' = R) := by
  have l1 := h.ld_fuse
  have hf := h.fuse
  by_cases h1 : r.fuse < 1
  · have b1 : decide (r.fuse < 1) = true := decide_eq_true h1
    have b2 : (r.fuse == 1) = false := by rw [beq_eq_false_iff_ne]; omega
    refine ⟨H, R, c_outriderref1_Store_blown ?_, by unfold blM; rw [if_pos h1]; exact h, Rgo.refl _ _ _, fun _ => ⟨Out.refl _ _, rfl⟩⟩
    unfold s_outriderref1_Store_blown
    simp only [l1, b1, b2, k_s, k_x, Int.reduceBEq, Int.reduceBNe, Int.reduceLT, Int.reduceLE, Int.reduceGT, Int.reduceGE, Int.reduceNeg]
  · have b1 : decide (r.fuse < 1) = false := decide_eq_false h1
    have w1 : IntKind.wrap .i64 (r.fuse - 1) = r.fuse - 1 := wrap_i64 (by omega) (by omega)
    obtain ⟨H1, a1, a2, a3, a4⟩ := h.head.st (o := 3) (by simp) (v := .int .i64 (r.fuse - 1)) rfl
    have hd := h.setHd (off := r.off) (fuse := r.fuse - 1) (xk := R.xk) (kl := r.keep) a2 a3 (by omega) (h.keep.out a3 fun j hj q => (h.pk j hj).1 (List.mem_singleton.1 q)) h.pk
    have l2 := hd.ld_fuse
    have l3 := hd.ld_keep
    by_cases h2 : r.fuse = 1
    · have b2 : (r.fuse == 1) = true := by rw [h2]; rfl
      have b3 : decide ((0 : Int) < r.fuse - 1) = false := decide_eq_false (by omega)
      obtain ⟨H2, R2, c1, c2, c3⟩ := rcrash_c hd hs hkl hd.keep fun j hj => (h.pk j hj).2
      refine ⟨H2, R2, c_outriderref1_Store_blown ?_, ?_, (Rgo.hd a3 fun j hj => .inl hj).trans c3, fun q => by rw [b2] at q; cases q⟩
      · unfold s_outriderref1_Store_blown
        simp only [l1, b1, b2, w1, a1, l2, b3, l3, c1, k_s, k_x, Int.reduceBEq, Int.reduceBNe, Int.reduceLT, Int.reduceLE, Int.reduceGT, Int.reduceGE, Int.reduceNeg]
      · unfold blM
        rw [if_neg h1, if_pos h2]
        have : r.fuse - 1 = 0 := by omega
        rw [this] at c2
        exact c2
    · have b2 : (r.fuse == 1) = false := by rw [beq_eq_false_iff_ne]; exact h2
      have b3 : decide ((0 : Int) < r.fuse - 1) = true := decide_eq_true (by omega)
      refine ⟨H1, R, c_outriderref1_Store_blown ?_, ?_, Rgo.hd a3 fun j hj => .inl hj, fun _ => ⟨a3, rfl⟩⟩
      · unfold s_outriderref1_Store_blown
        simp only [l1, b1, b2, w1, a1, l2, b3, k_s, k_x, Int.reduceBEq, Int.reduceBNe, Int.reduceLT, Int.reduceLE, Int.reduceGT, Int.reduceGE, Int.reduceNeg]
      · unfold blM
        rw [if_neg h1, if_neg h2]
        exact hd
def rfuseM (r : RM) (calls : Int) (kl : List Int) : RM := if r.off = true then r else { r with fuse := calls, keep := kl }
theorem rfuse_c (h : RS H p r R) {calls : Int} {x : AV} {kl : List Int} (hc : -9223372036854775808 ≤ calls ∧ calls ≤ 9223372036854775807) (hx : Rw H 1 x (ints kl)) (hlen : kl.length ≤ 16777216) :
    ∃ H' R', cK (.func (.func 31) [] []) [.ptr p 0, .int .i64 calls, x] H = some (.tuple [], H') ∧ RS H' p (rfuseM r calls kl) R' ∧ Rgo p H R H' R' := by
  have l1 := h.ld_off
  cases ho : r.off with
  | true =>
    rw [ho] at l1
    refine ⟨H, R, c_outriderref1_Store_Fuse ?_, by unfold rfuseM; rw [if_pos ho]; exact h, Rgo.refl _ _ _⟩
    unfold s_outriderref1_Store_Fuse
    simp only [l1, not_b, k_s, k_x, Int.reduceBEq, Int.reduceBNe, Int.reduceLT, Int.reduceLE, Int.reduceGT, Int.reduceGE, Int.reduceNeg]
  | false =>
    rw [ho] at l1
    obtain ⟨H2, n1, n2, n3, n4⟩ := newCells_ok H [] 3 0 (by simp)
    obtain ⟨y, H3, c1, c2, c3, c4⟩ := append_ok (z := [.int .i64 0]) (Ow.emp (H := H2) (el := 3) (es := 1) (i := H.next) (off := 0)) (hx.out n3 fun _ _ q => by cases q) (ints_one _) (by decide) (by simp [ints]; exact hlen)
    have e3 : rid (.slice H.next 0 0 0 true 1) = [] := rfl
    rw [e3] at c3 c4
    rw [List.nil_append] at c2
    have o3 := n3.trans c3
    have n3l := n3.1
    have h3 := h.out0 o3
    have hlt := h.lt
    have fy : ∀ j ∈ rid y, H.next ≤ j := fun j hj => (c4 j hj).elim (fun q => by cases q) fun q => by omega
    obtain ⟨H4, a1, a2, a3, a4⟩ := h3.head.st (o := 3) (by simp) (v := .int .i64 calls) rfl
    obtain ⟨H5, b1, b2, b3, b4⟩ := a2.st (o := 4) (by simp) (v := y) (rw_one c2.rw)
    have o5 := a3.trans b3
    have hpl := hlt p (rft_cases.2 (.inl rfl))
    have hyp : ∀ j ∈ rid y, j ≠ p ∧ j ∉ rid R.xf := fun j hj => ⟨fun e => by have := fy j hj; omega, fun e => by have := hlt j (rft_cases.2 (.inr (.inl e))); have := fy j hj; omega⟩
    have hd := h3.setHd (off := r.off) (fuse := calls) (xk := y) (kl := kl) b2 o5 hc (c2.rw.out o5 fun j hj q => (hyp j hj).1 (List.mem_singleton.1 q)) hyp
    refine ⟨H5, _, c_outriderref1_Store_Fuse ?_, by unfold rfuseM; rw [if_neg (by rw [ho]; simp)]; exact hd, ?_⟩
    · have f0 : fl [] [] = some [] := rfl
      unfold s_outriderref1_Store_Fuse
      simp only [l1, not_b, f0, n1, c1, a1, b1, k_s, k_x, Int.reduceBEq, Int.reduceBNe, Int.reduceLT, Int.reduceLE, Int.reduceGT, Int.reduceGE, Int.reduceNeg]
    · exact Rgo.hd ((o3.mono fun j hj => by cases hj).trans o5) fun j hj => .inr (fy j hj)
end
end Go.Proofs.YtnabkcdchklnpaaDoor.StP
namespace Go.Proofs.YtnabkcdchklnpaaDoor.StP
open Go Am Am.K StEnv StK StC
set_option linter.unusedVariables false
set_option linter.unusedSimpArgs false
/-! the order of names -/
theorem ltN_L : ∀ a b : List Nat, ltN a b = ltL a b
  | [], [] => rfl
  | [], _ :: _ => rfl
  | _ :: _, [] => rfl
  | x :: a, y :: b => by
    show @Bool.rec (fun _ => Bool) (@Bool.rec (fun _ => Bool) false (ltN a b) (Nat.beq x y)) true (Nat.blt x y) = (Nat.blt x y || (Nat.beq x y && ltL a b))
    rw [ltN_L a b]
    cases Nat.blt x y <;> cases Nat.beq x y <;> rfl
theorem ltL_irr : ∀ a : List Nat, ltL a a = false
  | [] => rfl
  | x :: a => by
    show (Nat.blt x x || (Nat.beq x x && ltL a a)) = false
    rw [ltL_irr a]
    have : Nat.blt x x = false := by rw [Bool.eq_false_iff]; intro q; rw [Nat.blt_eq] at q; omega
    rw [this]; simp
theorem ltL_cons {x y : Nat} {a b : List Nat} : ltL (x :: a) (y :: b) = true ↔ x < y ∨ (x = y ∧ ltL a b = true) := by
  show (Nat.blt x y || (Nat.beq x y && ltL a b)) = true ↔ _
  rw [Bool.or_eq_true, Bool.and_eq_true, Nat.blt_eq, Nat.beq_eq]
theorem ltL_tr : ∀ a b c : List Nat, ltL a b = true → ltL b c = true → ltL a c = true
  | [], [], c, h, _ => by cases h
  | [], _ :: _, [], _, h => by cases h
  | [], _ :: _, _ :: _, _, _ => rfl
  | _ :: _, [], c, h, _ => by cases h
  | _ :: _, _ :: _, [], _, h => by cases h
  | x :: a, y :: b, z :: c, h, k => by
    rw [ltL_cons] at h k ⊢
    rcases h with h | ⟨rfl, h⟩ <;> rcases k with k | ⟨rfl, k⟩
    · exact .inl (by omega)
    · exact .inl h
    · exact .inl k
    · exact .inr ⟨rfl, ltL_tr a b c h k⟩
theorem ltL_tri : ∀ a b : List Nat, ltL a b = true ∨ a = b ∨ ltL b a = true
  | [], [] => .inr (.inl rfl)
  | [], _ :: _ => .inl rfl
  | _ :: _, [] => .inr (.inr rfl)
  | x :: a, y :: b => by
    rw [ltL_cons, ltL_cons]
    rcases Nat.lt_trichotomy x y with h | rfl | h
    · exact .inl (.inl h)
    · rcases ltL_tri a b with h | rfl | h
      · exact .inl (.inr ⟨rfl, h⟩)
      · exact .inr (.inl rfl)
      · exact .inr (.inr (.inr ⟨rfl, h⟩))
    · exact .inr (.inr (.inl h))
abbrev Srt (l : List (List Nat)) : Prop := l.Pairwise fun a b => ltL a b = true
theorem insN_srt (x : List Nat) : ∀ l : List (List Nat), Srt l → x ∉ l → Srt (insN x l) ∧ (insN x l).Perm (x :: l)
  | [], _, _ => ⟨by show Srt [x]; simp [Srt], List.Perm.refl _⟩
  | y :: l, h, hx => by
    have e : insN x (y :: l) = @Bool.rec (fun _ => List (List Nat)) (x :: y :: l) (y :: insN x l) (ltN y x) := rfl
    rw [e, ltN_L]
    obtain ⟨h1, h2⟩ := List.pairwise_cons.1 h
    cases hyx : ltL y x with
    | false =>
      have hxy : ltL x y = true := by
        rcases ltL_tri x y with q | q | q
        · exact q
        · exact absurd (q ▸ .head _) hx
        · rw [hyx] at q; cases q
      refine ⟨List.pairwise_cons.2 ⟨fun z hz => ?_, h⟩, List.Perm.refl _⟩
      rcases List.mem_cons.1 hz with rfl | hz
      · exact hxy
      · exact ltL_tr _ _ _ hxy (h1 z hz)
    | true =>
      obtain ⟨i1, i2⟩ := insN_srt x l h2 fun q => hx (.tail _ q)
      refine ⟨List.pairwise_cons.2 ⟨fun z hz => ?_, i1⟩, (i2.cons y).trans (List.Perm.swap x y l)⟩
      rcases (insN_mem x z l).1 hz with rfl | hz
      · exact hyx
      · exact h1 z hz
theorem sortN_srt : ∀ l : List (List Nat), l.Nodup → Srt (sortN l) ∧ (sortN l).Perm l
  | [], _ => ⟨.nil, List.Perm.refl _⟩
  | x :: l, h => by
    obtain ⟨h1, h2⟩ := List.nodup_cons.1 h
    obtain ⟨i1, i2⟩ := sortN_srt l h2
    obtain ⟨j1, j2⟩ := insN_srt x (sortN l) i1 fun q => h1 ((sortN_mem x l).1 q)
    exact ⟨j1, j2.trans (i2.cons x)⟩
theorem srt_uniq {a b : List (List Nat)} (ha : Srt a) (hb : Srt b) (h : a.Perm b) : a = b :=
  List.Perm.eq_of_pairwise (fun x y _ _ h1 h2 => by have := ltL_tr _ _ _ h1 h2; rw [ltL_irr] at this; cases this) ha hb h

/-! the two stores -/
structure Sim (m : SM) (r : RM) : Prop where
  room : r.room = m.room
  off : r.off = m.off
  fuse : m.fuse = r.fuse.toNat
  keep : r.keep = m.keep
  perm : r.fs.Perm m.fs
  srt : Srt (r.fs.map (·.nm))
  nd : (m.fs.map (·.nm)).Nodup
  sok : Sok m.fs
theorem nd_eq {fs : List Fl} (h : (fs.map (·.nm)).Nodup) {f g : Fl} (hf : f ∈ fs) (hg : g ∈ fs) (e : f.nm = g.nm) : f = g := by
  obtain ⟨i, hi⟩ := List.getElem?_of_mem hf
  obtain ⟨j, hj⟩ := List.getElem?_of_mem hg
  have hil := (List.getElem?_eq_some_iff.1 hi).1
  have hij : i = j := (List.getElem?_inj (by simpa using hil) h).1 (by rw [List.getElem?_map, List.getElem?_map, hi, hj]; simp [e])
  subst hij
  rw [hi] at hj
  exact Option.some.inj hj
theorem look_mem {m : SM} (h : (m.fs.map (·.nm)).Nodup) {f : Fl} (hf : f ∈ m.fs) : StC.look m f.nm = some f := by
  unfold StC.look
  cases hq : m.fs.find? (fun g => g.nm == f.nm) with
  | none => have := List.find?_eq_none.1 hq f hf; simp at this
  | some g =>
    have h1 := List.mem_of_find?_eq_some hq
    have h2 : g.nm = f.nm := by simpa using List.find?_some hq
    rw [nd_eq h h1 hf h2]
section
variable {m : SM} {r : RM}
theorem Sim.file (h : Sim m r) (at' : List Nat) : fileR at' r.fs = StC.look m at' := by
  unfold fileR
  cases hi : idx at' r.fs with
  | none =>
    have := idxG_none.1 hi
    symm
    unfold StC.look
    rw [List.find?_eq_none]
    intro f hf
    simpa using this f (h.perm.mem_iff.2 hf)
  | some i =>
    obtain ⟨f, h1, h2⟩ := idx_some hi
    subst h2
    exact h1.trans (look_mem h.nd (h.perm.mem_iff.1 (List.mem_of_getElem? h1))).symm
theorem Sim.idxN (h : Sim m r) (at' : List Nat) : (idx at' r.fs).isNone = (StC.look m at').isNone := by
  rw [← h.file]
  unfold fileR
  cases hi : idx at' r.fs with
  | none => rfl
  | some i =>
    obtain ⟨f, h1, h2⟩ := idx_some hi
    simp only [h1]; rfl
theorem Sim.sum (h : Sim m r) : sumB r.fs = sumB m.fs := (h.perm.map _).sum_nat
theorem Sim.sokR (h : Sim m r) : Sok r.fs := fun f hf => h.sok f (h.perm.mem_iff.1 hf)
theorem Sim.names (h : Sim m r) : names m = r.fs.map (·.nm) := by
  obtain ⟨a, b⟩ := sortN_srt (m.fs.map (·.nm)) h.nd
  exact srt_uniq a h.srt (b.trans (h.perm.map _).symm)
theorem Sim.look1 (h : Sim m r) (at' : List Nat) : lookE r at' true = ofE m at' := by
  unfold lookE ofE
  rw [h.off, goodN_ok]
  have := h.idxN at'
  cases hi : idx at' r.fs with
  | none => rw [hi] at this; rw [← this]; simp
  | some i => rw [hi] at this; rw [← this]; simp
theorem Sim.look0 (h : Sim m r) (at' : List Nat) : lookE r at' false = if ofE m at' = 4 then 0 else ofE m at' := by
  unfold lookE ofE
  rw [h.off, goodN_ok]
  cases m.off <;> cases okName at' <;> cases (StC.look m at').isNone <;> simp
theorem Sim.burn (h : Sim m r) : (r.fuse == 1) = !burnB m := by
  unfold burnB
  rw [h.fuse]
  by_cases q : r.fuse = 1
  · rw [q]; rfl
  · have h1 : (r.fuse == 1) = false := by rw [beq_eq_false_iff_ne]; exact q
    have h2 : (r.fuse.toNat != 1) = true := by simp; omega
    rw [h1, h2]; rfl
/-- one file is another one, of the same name -/
theorem perm_set {fs gs : List Fl} (hp : fs.Perm gs) (hn : (gs.map (·.nm)).Nodup) {i : Nat} {f g : Fl} (hi : fs[i]? = some f) (hg : g.nm = f.nm) : (fs.set i g).Perm (setF f.nm g gs) := by
  have hlt := (List.getElem?_eq_some_iff.1 hi).1
  have e : fs.set i g = setF f.nm g fs := by
    unfold setF
    apply List.ext_getElem?
    intro j
    rw [List.getElem?_map, List.getElem?_set]
    have hnf : (fs.map (·.nm)).Nodup := (hp.map _).nodup_iff.2 hn
    by_cases hj : i = j
    · subst hj
      rw [if_pos rfl, if_pos hlt, hi]
      simp
    · rw [if_neg hj]
      cases hk : fs[j]? with
      | none => rfl
      | some k =>
        have : k.nm ≠ f.nm := fun q => by
          have hjl := (List.getElem?_eq_some_iff.1 hk).1
          exact hj ((List.getElem?_inj (by simpa using hlt) hnf).1 (by rw [List.getElem?_map, List.getElem?_map, hi, hk]; simp [q]))
        simp [this]
  rw [e]
  exact hp.map _
theorem setF_nm {n : List Nat} {g : Fl} (hg : g.nm = n) : ∀ fs : List Fl, (setF n g fs).map (·.nm) = fs.map (·.nm)
  | [] => rfl
  | f :: fs => by
    have := setF_nm hg fs
    unfold setF at this ⊢
    rw [List.map_cons, List.map_cons, List.map_cons, this]
    congr 1
    split
    · rename_i q; rw [hg, q]
    · rfl
theorem setF_sok {n : List Nat} {g : Fl} (hg : g.sure ≤ g.b.length) {fs : List Fl} (h : Sok fs) : Sok (setF n g fs) := by
  intro f hf
  unfold setF at hf
  obtain ⟨k, hk, rfl⟩ := List.mem_map.1 hf
  split
  · exact hg
  · exact h k hk
theorem set_nm {fs : List Fl} {i : Nat} {f g : Fl} (hi : fs[i]? = some f) (hg : g.nm = f.nm) : (fs.set i g).map (·.nm) = fs.map (·.nm) := by
  rw [List.map_set]
  apply List.ext_getElem?
  intro j
  rw [List.getElem?_set]
  split
  · rename_i q
    subst q
    have hlt := (List.getElem?_eq_some_iff.1 hi).1
    rw [if_pos (by simpa using hlt), List.getElem?_map, hi, hg]; rfl
  · rfl
theorem Sim.set (h : Sim m r) {i : Nat} {f g : Fl} (hi : r.fs[i]? = some f) (hg : g.nm = f.nm) (hs : g.sure ≤ g.b.length) : Sim { m with fs := setF f.nm g m.fs } { r with fs := r.fs.set i g } :=
  ⟨h.room, h.off, h.fuse, h.keep, perm_set h.perm h.nd hi hg, by show Srt ((r.fs.set i g).map _); rw [set_nm hi hg]; exact h.srt, by show ((setF _ _ _).map _).Nodup; rw [setF_nm hg]; exact h.nd, setF_sok hs h.sok⟩
/-! the fall -/
theorem crash_perm : ∀ (l : List Fl) (kl : List Int) (fs pre : List Fl), (pre ++ l).Perm fs → (fs.map (·.nm)).Nodup → Sok fs → (pre ++ crL l kl).Perm (crashF (l.map (·.nm)) kl fs) ∧ ((crashF (l.map (·.nm)) kl fs).map (·.nm)).Nodup ∧ Sok (crashF (l.map (·.nm)) kl fs)
  | [], kl, fs, pre, hp, hn, hs => ⟨by simpa [crL, crashF] using hp, hn, hs⟩
  | f :: l, kl, fs, pre, hp, hn, hs => by
    have hf : f ∈ fs := hp.mem_iff.1 (by simp)
    have hl : fs.find? (fun g => g.nm == f.nm) = some f := look_mem (m := ⟨0, false, 0, [], fs⟩) hn hf
    have hsu := hs f hf
    rw [List.map_cons, crL, crashF, hl]
    simp only
    by_cases he : f.b.length = f.sure
    · rw [if_pos he, if_pos he]
      obtain ⟨a, b, c⟩ := crash_perm l kl fs (pre ++ [f]) (by simpa using hp) hn hs
      exact ⟨by simpa using a, b, c⟩
    · rw [if_neg he, if_neg he]
      generalize hg : f.sure + min (kn kl).toNat (f.b.length - f.sure) = s
      have hg2 : s ≤ f.b.length := by omega
      have hc : cutTo f s = ⟨f.nm, f.b.take s, s⟩ := rfl
      have hpi : (pre ++ f :: l)[pre.length]? = some f := by simp
      have hps := perm_set (g := cutTo f s) hp hn hpi rfl
      have hset : (pre ++ f :: l).set pre.length (cutTo f s) = pre ++ cutTo f s :: l := by simp
      rw [hset] at hps
      obtain ⟨a, b, c⟩ := crash_perm l kl.tail (setF f.nm (cutTo f s) fs) (pre ++ [cutTo f s]) (by simpa using hps) (by rw [setF_nm (by rfl)]; exact hn) (setF_sok (by show s ≤ (f.b.take s).length; rw [List.length_take]; omega) hs)
      refine ⟨?_, b, c⟩
      rw [List.append_assoc, List.singleton_append] at a
      exact a
theorem crL_nm : ∀ (l : List Fl) (kl : List Int), (crL l kl).map (·.nm) = l.map (·.nm)
  | [], _ => rfl
  | f :: r, kl => by
    unfold crL
    split <;> simp [crL_nm r]
theorem Sim.crash (h : Sim m r) (kl : List Int) : Sim (crashM m kl) (crR r kl) := by
  unfold crashM crR
  rw [h.off]
  cases ho : m.off with
  | true => rw [if_pos rfl, if_pos rfl]; exact h
  | false =>
    rw [if_neg (by simp), if_neg (by simp)]
    obtain ⟨a, b, c⟩ := crash_perm r.fs kl m.fs [] (by simpa using h.perm) h.nd h.sok
    rw [← h.names] at a b c
    exact ⟨h.room, rfl, rfl, h.keep, by simpa using a, by show Srt ((crL _ _).map _); rw [crL_nm]; exact h.srt, b, c⟩
theorem Sim.burnM (h : Sim m r) : Sim (burnM m) (blM r) := by
  unfold StC.burnM blM
  have hf := h.fuse
  by_cases h1 : r.fuse < 1
  · rw [if_pos h1, if_pos (by omega)]; exact h
  · rw [if_neg h1, if_neg (by omega)]
    by_cases h2 : r.fuse = 1
    · rw [if_pos h2, if_pos (by omega)]
      have hs := Sim.crash (m := { m with fuse := 0 }) (r := { r with fuse := 0 }) ⟨h.room, h.off, rfl, h.keep, h.perm, h.srt, h.nd, h.sok⟩ r.keep
      exact Eq.mpr (congrArg (fun k => Sim (crashM { m with fuse := 0 } k) (crR { r with fuse := 0 } r.keep)) h.keep.symm) hs
    · rw [if_neg h2, if_neg (by omega)]
      exact ⟨h.room, h.off, by show m.fuse - 1 = (r.fuse - 1).toNat; omega, h.keep, h.perm, h.srt, h.nd, h.sok⟩
/-! taken out, put in -/
theorem erase_perm {fs gs : List Fl} (hp : fs.Perm gs) (hn : (gs.map (·.nm)).Nodup) {i : Nat} {f : Fl} (hi : fs[i]? = some f) : (fs.eraseIdx i).Perm (delF f.nm gs) := by
  have hlt := (List.getElem?_eq_some_iff.1 hi).1
  have hnf : (fs.map (·.nm)).Nodup := (hp.map _).nodup_iff.2 hn
  have e : fs.eraseIdx i = delF f.nm fs := by
    have hs : fs = fs.take i ++ f :: fs.drop (i + 1) := by
      rw [List.getElem?_eq_getElem hlt] at hi
      rw [← Option.some.inj hi, ← List.drop_eq_getElem_cons hlt, List.take_append_drop]
    rw [hs] at hnf
    rw [List.map_append, List.map_cons, List.nodup_append, List.nodup_cons] at hnf
    obtain ⟨_, ⟨n1, _⟩, n2⟩ := hnf
    unfold delF
    rw [List.eraseIdx_eq_take_drop_succ]
    conv => rhs; rw [hs]
    rw [List.filter_append, List.filter_cons, if_neg (by simp)]
    rw [List.filter_eq_self.2, List.filter_eq_self.2]
    · intro g hg
      have : g.nm ≠ f.nm := fun q => n1 (List.mem_map.2 ⟨g, hg, q⟩)
      simpa using this
    · intro g hg
      have : g.nm ≠ f.nm := fun q => n2 g.nm (List.mem_map.2 ⟨g, hg, rfl⟩) f.nm (.head _) q
      simpa using this
  rw [e]
  exact hp.filter _
theorem Sim.erase (h : Sim m r) {i : Nat} {f : Fl} (hi : r.fs[i]? = some f) : Sim { m with fs := delF f.nm m.fs } { r with fs := r.fs.eraseIdx i } :=
  ⟨h.room, h.off, h.fuse, h.keep, erase_perm h.perm h.nd hi, h.srt.sublist ((List.eraseIdx_sublist _ _).map _), h.nd.sublist (List.filter_sublist.map _), fun g hg => h.sok g (List.mem_filter.1 hg).1⟩
/-- where a name belongs -/
def posR (at' : List Nat) : List Fl → Nat
  | [] => 0
  | f :: r => if ltL f.nm at' = true then posR at' r + 1 else 0
theorem posR_le (at' : List Nat) : ∀ l : List Fl, posR at' l ≤ l.length
  | [] => Nat.le_refl _
  | f :: r => by
    unfold posR
    split
    · have := posR_le at' r; simp; omega
    · omega
theorem ins_srt (f : Fl) : ∀ l : List Fl, Srt (l.map (·.nm)) → (∀ g ∈ l, g.nm ≠ f.nm) → Srt ((l.take (posR f.nm l) ++ f :: l.drop (posR f.nm l)).map (·.nm))
  | [], _, _ => by simp [posR, Srt]
  | g :: l, h, hn => by
    obtain ⟨h1, h2⟩ := List.pairwise_cons.1 h
    unfold posR
    by_cases q : ltL g.nm f.nm = true
    · rw [if_pos q, List.take_succ_cons, List.drop_succ_cons]
      show Srt (g.nm :: (l.take (posR f.nm l) ++ f :: l.drop (posR f.nm l)).map (·.nm))
      refine List.pairwise_cons.2 ⟨fun z hz => ?_, ins_srt f l h2 fun g hg => hn g (.tail _ hg)⟩
      obtain ⟨k, hk, rfl⟩ := List.mem_map.1 hz
      rcases List.mem_append.1 hk with hk | hk
      · exact h1 _ (List.mem_map_of_mem (List.mem_of_mem_take hk))
      · rcases List.mem_cons.1 hk with rfl | hk
        · exact q
        · exact h1 _ (List.mem_map_of_mem (List.mem_of_mem_drop hk))
    · rw [if_neg q]
      have hfg : ltL f.nm g.nm = true := by
        rcases ltL_tri f.nm g.nm with q' | q' | q'
        · exact q'
        · exact absurd q'.symm (hn g (.head _))
        · exact absurd q' q
      show Srt (f.nm :: g.nm :: l.map (·.nm))
      refine List.pairwise_cons.2 ⟨fun z hz => ?_, h⟩
      rcases List.mem_cons.1 hz with rfl | hz
      · exact hfg
      · exact ltL_tr _ _ _ hfg (h1 z hz)
theorem Sim.ins (h : Sim m r) {f : Fl} (hn : StC.look m f.nm = none) (hs : f.sure ≤ f.b.length) : Sim { m with fs := m.fs ++ [f] } { r with fs := r.fs.take (posR f.nm r.fs) ++ f :: r.fs.drop (posR f.nm r.fs) } := by
  have hne : ∀ g ∈ m.fs, g.nm ≠ f.nm := fun g hg q => by
    rw [← q, look_mem h.nd hg] at hn; cases hn
  refine ⟨h.room, h.off, h.fuse, h.keep, ?_, ins_srt f r.fs h.srt fun g hg => hne g (h.perm.mem_iff.1 hg), ?_, fun g hg => ?_⟩
  · refine List.Perm.trans ?_ (h.perm.append_right [f])
    refine List.Perm.trans List.perm_middle ?_
    rw [List.take_append_drop]
    exact (List.perm_append_singleton f r.fs).symm
  · show ((m.fs ++ [f]).map (·.nm)).Nodup
    rw [List.map_append, List.nodup_append]
    refine ⟨h.nd, by simp, fun a ha b hb => ?_⟩
    obtain ⟨g, hg, rfl⟩ := List.mem_map.1 ha
    simp only [List.map_cons, List.map_nil, List.mem_singleton] at hb
    rw [hb]; exact hne g hg
  · rcases List.mem_append.1 hg with hg | hg
    · exact h.sok g hg
    · rw [List.mem_singleton.1 hg]; exact hs
end
end Go.Proofs.YtnabkcdchklnpaaDoor.StP
namespace Go.Proofs.YtnabkcdchklnpaaDoor.StP
open Go Am Am.K StEnv StK StC
set_option linter.unusedVariables false
set_option linter.unusedSimpArgs false
set_option maxRecDepth 10000
/-!  -/
section
variable {H : Hp} {p : Nat} {r : RM} {R : RLay} {m : SM}
/-- what a call of the reference comes to -/
def RR (H : Hp) (p : Nat) (R : RLay) (kp : List Int) (e : Int) (m' : SM) (o : Option (AV × Hp)) : Prop :=
  ∃ H' R' r', o = some (.int .i64 e, H') ∧ RS H' p r' R' ∧ Sim m' r' ∧ Rgo p H R H' R' ∧ r'.keep = kp
theorem blM_up (h : (r.fuse == 1) = false) : (blM r).fs = r.fs ∧ (blM r).keep = r.keep ∧ (blM r).off = r.off ∧ (blM r).room = r.room := by
  have h2 : r.fuse ≠ 1 := by simpa using h
  unfold blM
  split
  · exact ⟨rfl, rfl, rfl, rfl⟩
  · first | exact ⟨rfl, rfl, rfl, rfl⟩ | (rw [if_neg h2]; exact ⟨rfl, rfl, rfl, rfl⟩)
theorem blM_keep : (blM r).keep = r.keep := by
  unfold blM
  split
  · rfl
  · split
    · unfold crR
      split <;> rfl
    · rfl
theorem burnM_up (h : burnB m = true) : (burnM m).fs = m.fs ∧ (burnM m).off = m.off := by
  have h2 : m.fuse ≠ 1 := by simpa [burnB] using h
  unfold burnM
  split
  · exact ⟨rfl, rfl⟩
  · first | exact ⟨rfl, rfl⟩ | (rw [if_neg h2]; exact ⟨rfl, rfl⟩)
theorem up_c (h : RS H p r R) (hs : Sim m r) (hkl : r.keep.length ≤ 16777216) :
    ∃ H1 R1, cK (.func (.func 45) [] []) [.ptr p 0] H = some (.bool (!burnB m), H1) ∧ RS H1 p (blM r) R1 ∧ Rgo p H R H1 R1 ∧ Sim (burnM m) (blM r) ∧ (blM r).keep = r.keep ∧
      (burnB m = true → R1 = R ∧ Out [p] H H1 ∧ (blM r).fs = r.fs ∧ (burnM m).fs = m.fs) := by
  obtain ⟨H1, R1, b1, b2, b3, b4⟩ := blown_c h hs.sokR hkl
  rw [hs.burn] at b1 b4
  refine ⟨H1, R1, b1, b2, b3, hs.burnM, blM_keep, fun q => ?_⟩
  have q2 : (r.fuse == 1) = false := by rw [hs.burn, q]; rfl
  obtain ⟨c1, c2⟩ := b4 (by rw [q]; rfl)
  exact ⟨c2, c1, (blM_up q2).1, (burnM_up q).1⟩
theorem file_at (h : RS H p r R) (hs : Sim m r) {at' : List Nat} (he : ofE m at' = 0) : ∃ (i : Nat) (q : Fl × AV), R.l[i]? = some q ∧ q.1.nm = at' ∧ idxI at' r.fs = (i : Int) ∧ StC.look m at' = some q.1 ∧ r.fs[i]? = some q.1 ∧ q.1 ∈ m.fs := by
  rw [← hs.look1] at he
  obtain ⟨_, _, k, hk⟩ := lookE_0 he
  obtain ⟨q, q1, q2, q3, q4⟩ := h.idxAt hk
  have := h.fsAt q1
  exact ⟨k, q, q1, q2, q4, by rw [← hs.file]; exact q3, this, hs.perm.mem_iff.1 (List.mem_of_getElem? this)⟩
theorem Rgo.row {H' : Hp} {l : List (Fl × AV)} (ho : Out (rid R.xf) H H') (hl : ∀ q ∈ l, q ∈ R.l ∨ (∀ j ∈ rid q.2, H.next ≤ j) ∨ ∃ q' ∈ R.l, q'.2 = q.2) : Rgo p H R H' { R with l := l } := by
  refine ⟨ho.mono fun j hj => rft_cases.2 (.inr (.inl hj)), fun j hj => ?_⟩
  rcases rft_cases.1 hj with rfl | hj | hj | ⟨z, hz, hj⟩
  · exact .inl (rft_cases.2 (.inl rfl))
  · exact .inl (rft_cases.2 (.inr (.inl hj)))
  · exact .inl (rft_cases.2 (.inr (.inr (.inl hj))))
  · rcases hl z hz with q | q | ⟨z', q1, q2⟩
    · exact .inl (rft_cases.2 (.inr (.inr (.inr ⟨z, q, hj⟩))))
    · exact .inr (q j hj)
    · exact .inl (rft_cases.2 (.inr (.inr (.inr ⟨z', q1, q2 ▸ hj⟩))))
theorem Rgo.new {H' : Hp} {l : List (Fl × AV)} {s : AV} (ho : Out [p] H H') (hl : ∀ q ∈ l, q ∈ R.l ∨ (∀ j ∈ rid q.2, H.next ≤ j) ∨ ∃ q' ∈ R.l, q'.2 = q.2) (hf : ∀ j ∈ rid s, H.next ≤ j) : Rgo p H R H' { R with l := l, xf := s } := by
  refine ⟨ho.mono fun j hj => by rw [List.mem_singleton.1 hj]; exact rft_cases.2 (.inl rfl), fun j hj => ?_⟩
  rcases rft_cases.1 hj with rfl | hj | hj | ⟨z, hz, hj⟩
  · exact .inl (rft_cases.2 (.inl rfl))
  · exact .inr (hf j hj)
  · exact .inl (rft_cases.2 (.inr (.inr (.inl hj))))
  · rcases hl z hz with q | q | ⟨z', q1, q2⟩
    · exact .inl (rft_cases.2 (.inr (.inr (.inr ⟨z, q, hj⟩))))
    · exact .inr (q j hj)
    · exact .inl (rft_cases.2 (.inr (.inr (.inr ⟨z', q1, q2 ▸ hj⟩))))
theorem set_sub {q z : Fl × AV} {i : Nat} (hi : R.l[i]? = some q) (hz : z.2 = q.2) : ∀ w ∈ R.l.set i z, w ∈ R.l ∨ (∀ j ∈ rid w.2, H.next ≤ j) ∨ ∃ q' ∈ R.l, q'.2 = w.2 := by
  intro w hw
  rcases List.mem_or_eq_of_mem_set hw with hw | rfl
  · exact .inl hw
  · exact .inr (.inr ⟨q, List.mem_of_getElem? hi, hz.symm⟩)
theorem rsync_c (h : RS H p r R) (hs : Sim m r) (hkl : r.keep.length ≤ 16777216) (at' : List Nat) (hat : at'.length ≤ 1000000000000000000) :
    RR H p R r.keep (syncM m at').1 (syncM m at').2 (cK (.func (.func 26) [] []) [.ptr p 0, .str at'] H) := by
  have k1 := look_c h at' hat true
  rw [hs.look1] at k1
  by_cases he : ofE m at' = 0
  · obtain ⟨i, q, q1, q2, q3, q4, q5, q6⟩ := file_at h hs he
    obtain ⟨H1, R1, b1, b2, b3, b4, b5, b6⟩ := up_c h hs hkl
    rw [he] at k1
    cases hb : burnB m with
    | false =>
      rw [hb] at b1
      have e : syncM m at' = (11, burnM m) := by unfold syncM; rw [if_neg (by rw [he]; simp), if_pos hb]
      rw [e]
      refine ⟨H1, R1, _, c_outriderref1_Store_Sync ?_, b2, b4, b3, b5⟩
      unfold s_outriderref1_Store_Sync
      simp only [k1, b1, k_s, k_x, Int.reduceBEq, Int.reduceBNe, Int.reduceLT, Int.reduceLE, Int.reduceGT, Int.reduceGE, Int.reduceNeg]
    | true =>
      rw [hb] at b1
      obtain ⟨rfl, o1, f1, f2⟩ := b6 hb
      have f3 := find_c b2 at'
      rw [f1, q3] at f3
      obtain ⟨b, o, a1, a2, a3, a4, a5, a6⟩ := b2.at q1
      have hy := (b2.bs q (List.mem_of_getElem? q1)).len1
      rw [bs_len] at hy
      have l1 := b2.ld_f
      have hsz := h.szq q1
      obtain ⟨H2, s1, s2, s3, s4⟩ := b2.setSure q1 a1 (s := q.1.b.length) (by omega)
      have e : syncM m at' = (0, { burnM m with fs := setF at' ⟨q.1.nm, q.1.b, q.1.b.length⟩ m.fs }) := by unfold syncM; rw [if_neg (by rw [he]; simp), if_neg (by rw [hb]; simp), q4]
      have sm := b4.set (i := i) (f := q.1) (g := ⟨q.1.nm, q.1.b, q.1.b.length⟩) (by rw [f1]; exact q5) rfl (Nat.le_refl _)
      rw [f2, q2] at sm
      rw [e]
      subst q2
      refine ⟨H2, _, _, c_outriderref1_Store_Sync ?_, s2, sm, b3.trans (Rgo.row s3 (set_sub q1 rfl)), b5⟩
      unfold s_outriderref1_Store_Sync
      simp only [k1, b1, f3, l1, a1, a5, hy, s1, k_s, k_x, Int.reduceBEq, Int.reduceBNe, Int.reduceLT, Int.reduceLE, Int.reduceGT, Int.reduceGE, Int.reduceNeg]
  · have e : syncM m at' = (ofE m at', m) := by unfold syncM; rw [if_pos he]
    have hn : (ofE m at' != 0) = true := by simpa using he
    rw [e]
    refine ⟨H, R, r, c_outriderref1_Store_Sync ?_, h, hs, Rgo.refl _ _ _, rfl⟩
    unfold s_outriderref1_Store_Sync
    simp only [k1, hn, k_s, k_x, Int.reduceBEq, Int.reduceBNe, Int.reduceLT, Int.reduceLE, Int.reduceGT, Int.reduceGE, Int.reduceNeg]
theorem rdrop_c (h : RS H p r R) (hs : Sim m r) (hkl : r.keep.length ≤ 16777216) (at' : List Nat) (hat : at'.length ≤ 1000000000000000000) :
    RR H p R r.keep (dropM m at').1 (dropM m at').2 (cK (.func (.func 28) [] []) [.ptr p 0, .str at'] H) := by
  have k1 := look_c h at' hat true
  rw [hs.look1] at k1
  by_cases he : ofE m at' = 0
  · obtain ⟨i, q, q1, q2, q3, q4, q5, q6⟩ := file_at h hs he
    obtain ⟨H1, R1, b1, b2, b3, b4, b5, b6⟩ := up_c h hs hkl
    rw [he] at k1
    cases hb : burnB m with
    | false =>
      rw [hb] at b1
      have e : dropM m at' = (11, burnM m) := by unfold dropM; rw [if_neg (by rw [he]; simp), if_pos hb]
      rw [e]
      refine ⟨H1, R1, _, c_outriderref1_Store_Drop ?_, b2, b4, b3, b5⟩
      unfold s_outriderref1_Store_Drop
      simp only [k1, b1, k_s, k_x, Int.reduceBEq, Int.reduceBNe, Int.reduceLT, Int.reduceLE, Int.reduceGT, Int.reduceGE, Int.reduceNeg]
    | true =>
      rw [hb] at b1
      obtain ⟨rfl, o1, f1, f2⟩ := b6 hb
      have f3 := find_c b2 at'
      rw [f1, q3] at f3
      have hlt := (List.getElem?_eq_some_iff.1 q1).1
      obtain ⟨H2, s, g1, g2, g3, g4⟩ := gone_c b2 hlt
      have e : dropM m at' = (0, { burnM m with fs := delF at' m.fs }) := by unfold dropM; rw [if_neg (by rw [he]; simp), if_neg (by rw [hb]; simp)]
      have sm := b4.erase (i := i) (f := q.1) (by rw [f1]; exact q5)
      rw [f2, q2] at sm
      rw [e]
      refine ⟨H2, _, _, c_outriderref1_Store_Drop ?_, g2, sm, b3.trans (Rgo.new g3 (fun z hz => .inl ((List.eraseIdx_sublist _ _).subset hz)) g4), b5⟩
      unfold s_outriderref1_Store_Drop
      simp only [k1, b1, f3, g1, k_s, k_x, Int.reduceBEq, Int.reduceBNe, Int.reduceLT, Int.reduceLE, Int.reduceGT, Int.reduceGE, Int.reduceNeg]
  · have e : dropM m at' = (ofE m at', m) := by unfold dropM; rw [if_pos he]
    have hn : (ofE m at' != 0) = true := by simpa using he
    rw [e]
    refine ⟨H, R, r, c_outriderref1_Store_Drop ?_, h, hs, Rgo.refl _ _ _, rfl⟩
    unfold s_outriderref1_Store_Drop
    simp only [k1, hn, k_s, k_x, Int.reduceBEq, Int.reduceBNe, Int.reduceLT, Int.reduceLE, Int.reduceGT, Int.reduceGE, Int.reduceNeg]
/-- other bytes of a file: a new row of ours from its first bytes and more -/
theorem copy_c {x : AV} {l : List AV} {n : Nat} (hx : Rw H 1 x l) (h1 : ∀ v ∈ l, oneC v = true) (hn : n ≤ l.length) (hl : l.length ≤ 16777216) :
    ∃ H2 x1 y H3, newCells H [] 5 0 = some (H.next, H2) ∧ sll 1 x none (some (.int .i64 (n : Nat))) none = some x1 ∧ app' 5 1 [.int .u8 0] false (.slice H.next 0 0 0 true 1) x1 H2 = some (y, H3) ∧
      Ow H3 5 1 y (l.take n) ∧ Out [] H H2 ∧ Out [] H H3 ∧ (∀ j ∈ rid y, H.next ≤ j) := by
  obtain ⟨H2, n1, n2, n3, n4⟩ := newCells_ok H [] 5 0 (by simp)
  obtain ⟨x1, t1, t2, t3⟩ := sll_rw (n := l.length) hx (by rw [Nat.mul_one]) (by decide) (a := 0) (b := n) (lo := none) (hi := some (.int .i64 (n : Nat))) (by omega) hn (Bd.no 0) (Bd.yes _ _ _)
  rw [Nat.zero_mul, List.drop_zero, Nat.sub_zero, Nat.mul_one] at t2
  obtain ⟨y, H3, c1, c2, c3, c4⟩ := append_ok (z := [.int .u8 0]) (Ow.emp (H := H2) (el := 5) (es := 1) (i := H.next) (off := 0)) (t2.out n3 fun _ _ q => by cases q) (fun v hv => h1 v (List.mem_of_mem_take hv)) (by decide) (by rw [List.length_take]; simp only [List.length_nil]; omega)
  have e3 : rid (.slice H.next 0 0 0 true 1) = [] := rfl
  rw [e3] at c3 c4
  rw [List.nil_append] at c2
  have n3l := n3.1
  exact ⟨H2, x1, y, H3, n1, t1, c1, c2, n3, n3.trans c3, fun j hj => (c4 j hj).elim (fun q => by cases q) fun q => by omega⟩
theorem rcut_c (h : RS H p r R) (hs : Sim m r) (hkl : r.keep.length ≤ 16777216) (at' : List Nat) (hat : at'.length ≤ 1000000000000000000) (n : Int) :
    RR H p R r.keep (cutM m at' n).1 (cutM m at' n).2 (cK (.func (.func 27) [] []) [.ptr p 0, .str at', .int .i64 n] H) := by
  have k1 := look_c h at' hat true
  rw [hs.look1] at k1
  by_cases he : ofE m at' = 0
  · obtain ⟨i, q, q1, q2, q3, q4, q5, q6⟩ := file_at h hs he
    subst q2
    rw [he] at k1
    have f0 := find_c h q.1.nm
    rw [q3] at f0
    obtain ⟨b, o, a1, a2, a3, a4, a5, a6⟩ := h.at q1
    have hy := (h.bs q (List.mem_of_getElem? q1)).len1
    rw [bs_len] at hy
    have l1 := h.ld_f
    have hsz := h.szq q1
    by_cases hn : n < 0 ∨ (q.1.b.length : Int) < n
    · have e : cutM m q.1.nm n = (1, m) := by unfold cutM; rw [if_neg (by rw [he]; simp), q4]; simp only; rw [if_pos hn]
      rw [e]
      refine ⟨H, R, r, c_outriderref1_Store_Cut ?_, h, hs, Rgo.refl _ _ _, rfl⟩
      unfold s_outriderref1_Store_Cut
      by_cases h0 : n < 0
      · have d0 : decide (n < 0) = true := decide_eq_true h0
        simp only [k1, f0, d0, k_s, k_x, Int.reduceBEq, Int.reduceBNe, Int.reduceLT, Int.reduceLE, Int.reduceGT, Int.reduceGE, Int.reduceNeg]
      · have d0 : decide (n < 0) = false := decide_eq_false h0
        have d1 : decide ((q.1.b.length : Int) < n) = true := decide_eq_true (by omega)
        simp only [k1, f0, d0, l1, a1, a5, hy, d1, k_s, k_x, Int.reduceBEq, Int.reduceBNe, Int.reduceLT, Int.reduceLE, Int.reduceGT, Int.reduceGE, Int.reduceNeg]
    · obtain ⟨k, rfl⟩ : ∃ k : Nat, n = k := ⟨n.toNat, by omega⟩
      have hk : k ≤ q.1.b.length := by omega
      have d0 : decide ((k : Int) < 0) = false := decide_eq_false (by omega)
      have d1 : decide ((q.1.b.length : Int) < (k : Int)) = false := decide_eq_false (by omega)
      obtain ⟨H1, R1, b1, b2, b3, b4, b5, b6⟩ := up_c h hs hkl
      cases hb : burnB m with
      | false =>
        rw [hb] at b1
        have e : cutM m q.1.nm k = (11, burnM m) := by unfold cutM; rw [if_neg (by rw [he]; simp), q4]; simp only; rw [if_neg hn, if_pos hb]
        rw [e]
        refine ⟨H1, R1, _, c_outriderref1_Store_Cut ?_, b2, b4, b3, b5⟩
        unfold s_outriderref1_Store_Cut
        simp only [k1, f0, d0, l1, a1, a5, hy, d1, b1, k_s, k_x, Int.reduceBEq, Int.reduceBNe, Int.reduceLT, Int.reduceLE, Int.reduceGT, Int.reduceGE, Int.reduceNeg]
      | true =>
        rw [hb] at b1
        obtain ⟨rfl, o1, f1, f2⟩ := b6 hb
        have l1' := b2.ld_f
        obtain ⟨bb, oo, a1', a2', a3', a4', a5', a6'⟩ := b2.at q1
        have eb := a1 .i64
        rw [a1' .i64] at eb
        injection eb with eb
        injection eb with eb eo
        subst eb
        subst eo
        have hyr := b2.bs q (List.mem_of_getElem? q1)
        obtain ⟨H2, x1, y, H3, n1, t1, c1, c2, n3, o3, fy⟩ := copy_c (n := k) hyr (bs_one _) (by rw [bs_len]; exact hk) (by rw [bs_len]; omega)
        rw [← bs_take] at c2
        obtain ⟨H4, d1', d2, d3, d4⟩ := b2.setB q1 a1' (bb := q.1.b.take k) o3 c2.rw fy (by rw [List.length_take]; omega) (fun c hc => hsz.2.2 c (List.mem_of_mem_take hc))
        have hq4 : (R1.l.set i (⟨q.1.nm, q.1.b.take k, q.1.sure⟩, y))[i]? = some (⟨q.1.nm, q.1.b.take k, q.1.sure⟩, y) := by rw [List.getElem?_set_self (List.getElem?_eq_some_iff.1 q1).1]
        obtain ⟨b4', o4', u1, u2, u3, u4, u5, u6⟩ := d2.at hq4
        have eb := a1' .i64
        rw [u1 .i64] at eb
        injection eb with eb
        injection eb with eb eo
        subst eb
        subst eo
        have l4 := d2.ld_f
        have l3 := (b2.out0 o3).ld_f
        have sm := same_rw h.row.1.rw
        have f00 : fl [] [] = some [] := rfl
        have rg : Rgo p H1 R1 H4 { R1 with l := R1.l.set i (⟨q.1.nm, q.1.b.take k, q.1.sure⟩, y) } := by
          refine Rgo.row ((o3.mono fun j hj => by cases hj).trans d3) fun w hw => ?_
          rcases List.mem_or_eq_of_mem_set hw with hw | rfl
          · exact .inl hw
          · exact .inr (.inl fy)
        have hlen : (q.1.b.take k).length = k := by rw [List.length_take]; omega
        by_cases hsu : k < q.1.sure
        · have d5 : decide ((k : Int) < (q.1.sure : Int)) = true := decide_eq_true (by omega)
          obtain ⟨H5, s1, s2, s3, s4⟩ := d2.setSure hq4 u1 (s := k) (by omega)
          have e : cutM m q.1.nm k = (0, { burnM m with fs := setF q.1.nm ⟨q.1.nm, q.1.b.take k, k⟩ m.fs }) := by
            unfold cutM; rw [if_neg (by rw [he]; simp), q4]; simp only; rw [if_neg hn, if_neg (by rw [hb]; simp), Int.toNat_natCast, Nat.min_eq_right (by omega)]
          have sm2 := b4.set (i := i) (f := q.1) (g := ⟨q.1.nm, q.1.b.take k, k⟩) (by rw [f1]; exact q5) rfl (by show k ≤ (q.1.b.take k).length; omega)
          rw [f2] at sm2
          rw [e]
          have e2 : ((blM r).fs.set i ⟨q.1.nm, q.1.b.take k, q.1.sure⟩).set i ⟨q.1.nm, q.1.b.take k, k⟩ = (blM r).fs.set i ⟨q.1.nm, q.1.b.take k, k⟩ := List.set_set ..
          have s2' : RS H5 p { blM r with fs := (blM r).fs.set i ⟨q.1.nm, q.1.b.take k, k⟩ } { R1 with l := (R1.l.set i (⟨q.1.nm, q.1.b.take k, q.1.sure⟩, y)).set i (⟨q.1.nm, q.1.b.take k, k⟩, y) } := by rw [← e2]; exact s2
          refine ⟨H5, _, _, c_outriderref1_Store_Cut ?_, s2', sm2, (b3.trans rg).trans (Rgo.row s3 (set_sub (R := { R1 with l := R1.l.set i (⟨q.1.nm, q.1.b.take k, q.1.sure⟩, y) }) hq4 rfl)), b5⟩
          unfold s_outriderref1_Store_Cut
          simp only [k1, f0, d0, l1, a1, a5, hy, d1, b1, l1', f00, n1, a1', a5', t1, c1, d1', l3, SM_t sm, l4, u1, u6, d5, s1, k_s, k_x, Int.reduceBEq, Int.reduceBNe, Int.reduceLT, Int.reduceLE, Int.reduceGT, Int.reduceGE, Int.reduceNeg]
        · have d5 : decide ((k : Int) < (q.1.sure : Int)) = false := decide_eq_false (by omega)
          have e : cutM m q.1.nm k = (0, { burnM m with fs := setF q.1.nm ⟨q.1.nm, q.1.b.take k, q.1.sure⟩ m.fs }) := by
            unfold cutM; rw [if_neg (by rw [he]; simp), q4]; simp only; rw [if_neg hn, if_neg (by rw [hb]; simp), Int.toNat_natCast, Nat.min_eq_left (by omega)]
          have sm2 := b4.set (i := i) (f := q.1) (g := ⟨q.1.nm, q.1.b.take k, q.1.sure⟩) (by rw [f1]; exact q5) rfl (by show q.1.sure ≤ (q.1.b.take k).length; omega)
          rw [f2] at sm2
          rw [e]
          refine ⟨H4, _, _, c_outriderref1_Store_Cut ?_, d2, sm2, b3.trans rg, b5⟩
          unfold s_outriderref1_Store_Cut
          simp only [k1, f0, d0, l1, a1, a5, hy, d1, b1, l1', f00, n1, a1', a5', t1, c1, d1', l3, SM_t sm, l4, u1, u6, d5, k_s, k_x, Int.reduceBEq, Int.reduceBNe, Int.reduceLT, Int.reduceLE, Int.reduceGT, Int.reduceGE, Int.reduceNeg]
  · have e : cutM m at' n = (ofE m at', m) := by unfold cutM; rw [if_pos he]
    have hn : (ofE m at' != 0) = true := by simpa using he
    rw [e]
    refine ⟨H, R, r, c_outriderref1_Store_Cut ?_, h, hs, Rgo.refl _ _ _, rfl⟩
    unfold s_outriderref1_Store_Cut
    simp only [k1, hn, k_s, k_x, Int.reduceBEq, Int.reduceBNe, Int.reduceLT, Int.reduceLE, Int.reduceGT, Int.reduceGE, Int.reduceNeg]
end
/-!  -/
section
variable {H : Hp} {p : Nat} {r : RM} {R : RLay} {m : SM}
/-- a new row of ours: one row, and another one behind it -/
theorem cat_c {x z : AV} {l l2 : List AV} (hx : Rw H 1 x l) (hz : Rw H 1 z l2) (h1 : ∀ v ∈ l, oneC v = true) (h2 : ∀ v ∈ l2, oneC v = true) (hl : l.length + l2.length ≤ 16777216) :
    ∃ H2 y1 H3 y2 H4, newCells H [] 5 0 = some (H.next, H2) ∧ app' 5 1 [.int .u8 0] false (.slice H.next 0 0 0 true 1) x H2 = some (y1, H3) ∧ app' 5 1 [.int .u8 0] false y1 z H3 = some (y2, H4) ∧
      Ow H4 5 1 y2 (l ++ l2) ∧ Out [] H H2 ∧ Out [] H H3 ∧ Out [] H H4 ∧ (∀ j ∈ rid y2, H.next ≤ j) := by
  obtain ⟨H2, n1, n2, n3, n4⟩ := newCells_ok H [] 5 0 (by simp)
  obtain ⟨y1, H3, c1, c2, c3, c4⟩ := append_ok (z := [.int .u8 0]) (Ow.emp (H := H2) (el := 5) (es := 1) (i := H.next) (off := 0)) (hx.out n3 fun _ _ q => by cases q) h1 (by decide) (by simp only [List.length_nil]; omega)
  have e3 : rid (.slice H.next 0 0 0 true 1) = [] := rfl
  rw [e3] at c3 c4
  rw [List.nil_append] at c2
  have n3l := n3.1
  have o3 := n3.trans c3
  have o3l := o3.1
  have f1 : ∀ j ∈ rid y1, H.next ≤ j := fun j hj => (c4 j hj).elim (fun q => by cases q) fun q => by omega
  obtain ⟨y2, H4, d1, d2, d3, d4⟩ := append_ok (z := [.int .u8 0]) c2 (hz.out o3 fun _ _ q => by cases q) h2 (by decide) hl
  exact ⟨H2, y1, H3, y2, H4, n1, c1, d1, d2, n3, o3, o3.then d3 fun j hj => .inr (f1 j hj), fun j hj => (d4 j hj).elim (f1 j) fun q => by omega⟩
theorem posA_loop (h : RS H p r R) (at' : List Nat) (y : AV) (j65 : Am.K.Fn 4) : ∀ (m i : Nat), i + m = R.l.length →
    l_outriderref1_Store_Append JN GO cK j65 (.ptr p 0) (.str at') y (.int .i64 i) H = j65 (.ptr p 0) (.str at') y (.int .i64 ((i + posR at' (r.fs.drop i) : Nat) : Int)) H := by
  intro m
  have hm := h.many
  rw [h.len] at hm
  have l1 := h.ld_f
  have l2 := h.lenx
  induction m with
  | zero =>
    intro i hi
    obtain rfl : i = R.l.length := by omega
    have d : decide (((R.l.length : Nat) : Int) < ((R.l.length : Nat) : Int)) = false := decide_eq_false (by omega)
    have e : posR at' (r.fs.drop R.l.length) = 0 := by rw [h.fs, List.drop_eq_nil_of_le (by simp)]; rfl
    rw [ql_outriderref1_Store_Append, e, Nat.add_zero]
    simp only [bl_outriderref1_Store_Append, l1, l2, d, k_s, k_x, Int.reduceBEq, Int.reduceBNe, Int.reduceLT, Int.reduceLE, Int.reduceGT, Int.reduceGE, Int.reduceNeg]
  | succ m ih =>
    intro i hi
    have hlt : i < R.l.length := by omega
    obtain ⟨q, hq⟩ : ∃ q, R.l[i]? = some q := ⟨_, List.getElem?_eq_getElem hlt⟩
    obtain ⟨b, o, a1, a2, a3, a4, a5, a6⟩ := h.at hq
    have d : decide ((i : Int) < ((R.l.length : Nat) : Int)) = true := decide_eq_true (by omega)
    have es : IntKind.wrap .i64 ((i : Int) + 1) = ((i + 1 : Nat) : Int) := by rw [wrap_i64 (by omega) (by omega)]; rfl
    rw [ql_outriderref1_Store_Append, h.drop hq, posR]
    cases hb : ltL q.1.nm at' with
    | true =>
      rw [if_pos rfl, show i + (posR at' (r.fs.drop (i + 1)) + 1) = i + 1 + posR at' (r.fs.drop (i + 1)) by omega]
      simp only [bl_outriderref1_Store_Append, l1, l2, d, a1, Nat.add_zero, a4, hb, es, ih (i + 1) (by omega), k_s, k_x, Int.reduceBEq, Int.reduceBNe, Int.reduceLT, Int.reduceLE, Int.reduceGT, Int.reduceGE, Int.reduceNeg]
    | false =>
      rw [if_neg (by simp), Nat.add_zero]
      simp only [bl_outriderref1_Store_Append, l1, l2, d, a1, Nat.add_zero, a4, hb, k_s, k_x, Int.reduceBEq, Int.reduceBNe, Int.reduceLT, Int.reduceLE, Int.reduceGT, Int.reduceGE, Int.reduceNeg]
theorem rapp_c (h : RS H p r R) (hs : Sim m r) (hkl : r.keep.length ≤ 16777216) (at' : List Nat) (hat : at'.length ≤ 1000000000000000000) {y : AV} {b : List Nat} (hy : Rw H 1 y (K.bs b)) (hyp : p ∉ rid y) (hbb : ∀ c ∈ b, c < 256) (hbl : b.length ≤ 9223372036854775807)
    (hsum : sumB m.fs ≤ m.room) :
    RR H p R r.keep (appM m at' b).1 (appM m at' b).2 (cK (.func (.func 25) [] []) [.ptr p 0, .str at', y] H) := by
  have k1 := look_c h at' hat false
  rw [hs.look0] at k1
  have hroom := h.room
  rw [hs.room] at hroom
  by_cases he : ofE m at' ≠ 0 ∧ ofE m at' ≠ 4
  · have e : appM m at' b = (ofE m at', m) := by unfold appM; rw [if_pos he]
    have hn : (ofE m at' != 0) = true := by simpa using he.1
    rw [if_neg he.2] at k1
    rw [e]
    refine ⟨H, R, r, c_outriderref1_Store_Append ?_, h, hs, Rgo.refl _ _ _, rfl⟩
    unfold s_outriderref1_Store_Append
    simp only [k1, hn, k_s, k_x, Int.reduceBEq, Int.reduceBNe, Int.reduceLT, Int.reduceLE, Int.reduceGT, Int.reduceGE, Int.reduceNeg]
  · have hz : (if ofE m at' = 4 then (0 : Int) else ofE m at') = 0 := by split <;> omega
    rw [hz] at k1
    have f0 := find_c h at'
    have hyl := hy.len1
    rw [bs_len] at hyl
    have fr := rfree_c h
    rw [hs.sum, hs.room] at fr
    have i1 := idxI_neg at' r.fs
    rw [hs.idxN] at i1
    have l1 := h.ld_f
    have l2 := h.lenx
    have ll : R.l.length = m.fs.length := by rw [← h.len]; exact hs.perm.length_eq
    by_cases hfull : (m.room : Int) - sumB m.fs < b.length ∨ ((StC.look m at').isNone = true ∧ 64 ≤ m.fs.length)
    · have e : appM m at' b = (6, m) := by unfold appM; rw [if_neg he, if_pos hfull]
      rw [e]
      refine ⟨H, R, r, c_outriderref1_Store_Append ?_, h, hs, Rgo.refl _ _ _, rfl⟩
      unfold s_outriderref1_Store_Append
      by_cases hf : (m.room : Int) - sumB m.fs < b.length
      · have d0 : decide ((m.room : Int) - sumB m.fs < b.length) = true := decide_eq_true hf
        simp only [k1, f0, hyl, fr, d0, k_s, k_x, Int.reduceBEq, Int.reduceBNe, Int.reduceLT, Int.reduceLE, Int.reduceGT, Int.reduceGE, Int.reduceNeg]
      · have d0 : decide ((m.room : Int) - sumB m.fs < b.length) = false := decide_eq_false hf
        obtain ⟨g1, g2⟩ := hfull.resolve_left hf
        have d1 : decide ((64 : Int) ≤ ((R.l.length : Nat) : Int)) = true := decide_eq_true (by omega)
        rw [g1] at i1
        simp only [k1, f0, hyl, fr, d0, i1, l1, l2, d1, k_s, k_x, Int.reduceBEq, Int.reduceBNe, Int.reduceLT, Int.reduceLE, Int.reduceGT, Int.reduceGE, Int.reduceNeg]
    · have hf : ¬ (m.room : Int) - sumB m.fs < b.length := fun q => hfull (.inl q)
      have d0 : decide ((m.room : Int) - sumB m.fs < b.length) = false := decide_eq_false hf
      have d1 : (StC.look m at').isNone = true → decide ((64 : Int) ≤ ((R.l.length : Nat) : Int)) = false := fun q => decide_eq_false fun q2 => hfull (.inr ⟨q, by omega⟩)
      obtain ⟨H1, R1, b1, b2, b3, b4, b5, b6⟩ := up_c h hs hkl
      cases hb : burnB m with
      | false =>
        rw [hb] at b1
        have e : appM m at' b = (11, burnM m) := by unfold appM; rw [if_neg he, if_neg hfull, if_pos hb]
        rw [e]
        refine ⟨H1, R1, _, c_outriderref1_Store_Append ?_, b2, b4, b3, b5⟩
        unfold s_outriderref1_Store_Append
        cases hi : (StC.look m at').isNone with
        | true => simp only [k1, f0, hyl, fr, d0, i1, hi, l1, l2, d1 hi, b1, k_s, k_x, Int.reduceBEq, Int.reduceBNe, Int.reduceLT, Int.reduceLE, Int.reduceGT, Int.reduceGE, Int.reduceNeg]
        | false => simp only [k1, f0, hyl, fr, d0, i1, hi, b1, k_s, k_x, Int.reduceBEq, Int.reduceBNe, Int.reduceLT, Int.reduceLE, Int.reduceGT, Int.reduceGE, Int.reduceNeg]
      | true =>
        rw [hb] at b1
        obtain ⟨rfl, o1, f1, f2⟩ := b6 hb
        have hy1 := hy.out o1 fun j hj q => hyp (List.mem_singleton.1 q ▸ hj)
        have l1' := b2.ld_f
        have f00 : fl [] [] = some [] := rfl
        cases hlk : StC.look m at' with
        | some g =>
          -- a file that is there
          have hlf : fileR at' r.fs = some g := by rw [hs.file]; exact hlk
          obtain ⟨i, hi, hi2⟩ : ∃ i, idx at' r.fs = some i ∧ r.fs[i]? = some g := by
            unfold fileR at hlf
            cases hq : idx at' r.fs with
            | none => rw [hq] at hlf; cases hlf
            | some i => rw [hq] at hlf; exact ⟨i, rfl, hlf⟩
          obtain ⟨q, q1, q2, q3, q4⟩ := h.idxAt hi
          have q5 := h.fsAt q1
          rw [hi2] at q5
          have q5' := Option.some.inj q5
          rw [q4] at f0 i1
          rw [hlk] at i1
          have d2 : decide ((i : Int) < 0) = false := i1
          obtain ⟨bb, oo, a1, a2, a3, a4, a5, a6⟩ := b2.at q1
          have hyr := b2.bs q (List.mem_of_getElem? q1)
          have hlen : q.1.b.length ≤ sumB m.fs := len_le (hs.perm.mem_iff.1 (List.mem_of_getElem? (h.fsAt q1)))
          obtain ⟨H2, y1, H3, y2, H4, n1, c1, c2, c3, n3, o3, o4, fy⟩ := cat_c hyr hy1 (bs_one _) (bs_one _) (by rw [bs_len, bs_len]; omega)
          rw [← bs_app] at c3
          have hsz := h.szq q1
          obtain ⟨H5, e1, e2, e3, e4⟩ := b2.setB q1 a1 (bb := q.1.b ++ b) o4 c3.rw fy (by rw [List.length_append]; omega) (fun c hc => (List.mem_append.1 hc).elim (hsz.2.2 c) (hbb c))
          have lA := (b2.out0 o3).ld_f
          have lB := (b2.out0 o4).ld_f
          have sm := same_rw h.row.1.rw
          have e : appM m at' b = (0, { burnM m with fs := setF at' ⟨g.nm, g.b ++ b, g.sure⟩ m.fs }) := by unfold appM; rw [if_neg he, if_neg hfull, if_neg (by rw [hb]; simp), hlk]
          have hgn : g.nm = at' := by rw [q5']; exact q2
          have hgs := hs.sokR g (List.mem_of_getElem? hi2)
          have sm2 := b4.set (i := i) (f := g) (g := ⟨g.nm, g.b ++ b, g.sure⟩) (by rw [f1]; exact hi2) rfl (by show g.sure ≤ (g.b ++ b).length; rw [List.length_append]; omega)
          rw [f2] at sm2
          rw [e]
          have e2' : RS H5 p { blM r with fs := (blM r).fs.set i ⟨g.nm, g.b ++ b, g.sure⟩ } { R1 with l := R1.l.set i (⟨q.1.nm, q.1.b ++ b, q.1.sure⟩, y2) } := by rw [q5']; exact e2
          rw [hgn] at sm2 e2' ⊢
          refine ⟨H5, _, _, c_outriderref1_Store_Append ?_, e2', sm2, b3.trans (Rgo.row ((o4.mono fun j hj => by cases hj).trans e3) fun w hw => ?_), b5⟩
          · unfold s_outriderref1_Store_Append
            simp only [k1, f0, hyl, fr, d0, d2, b1, l1', f00, n1, a1, a5, c1, c2, e1, lA, lB, SM_t sm, k_s, k_x, Int.reduceBEq, Int.reduceBNe, Int.reduceLT, Int.reduceLE, Int.reduceGT, Int.reduceGE, Int.reduceNeg]
          · rcases List.mem_or_eq_of_mem_set hw with hw | rfl
            · exact .inl hw
            · exact .inr (.inl fy)
        | none =>
          rw [hlk] at i1
          have d2 : decide (idxI at' r.fs < 0) = true := i1
          have d3 := d1 (by rw [hlk]; rfl)
          have hlt64 : R1.l.length < 64 := by rw [decide_eq_false_iff_not] at d3; omega
          have pl := fun j65 => posA_loop b2 at' y j65 R1.l.length 0 (by omega)
          rw [List.drop_zero, Nat.zero_add, f1] at pl
          have z0 : ((0 : Nat) : Int) = 0 := rfl
          rw [z0] at pl
          have hk : posR at' r.fs ≤ R1.l.length := by rw [← h.len]; exact posR_le _ _
          obtain ⟨H2, H3, H4, H5, H6, H7, x1, y1, y2, x2, y3, n1, s1, c1, n2, c2, s2, c3, st1, rs7, oA, oB, oC, oD, oE, fy3, sx1, sx2⟩ := ins_c b2 hk hlt64 (f := ⟨at', [], 0⟩) (y := .slice0) .nil (fun q => by cases q) ⟨by simp, by simp, fun c hc => by cases hc⟩
          have n2' : newCells H3 [.str at', .slice0, .int .i64 0] 76 0 = some (H3.next, H4) := n2
          have lB := (b2.out0 oB).ld_f
          have lC := (b2.out0 oC).ld_f
          have sm := same_rw h.row.1.rw
          have fl1 : fl [.str [], .slice0, .int .i64 0] [(0, 1, .str at')] = some [.str at', .slice0, .int .i64 0] := rfl
          have fl2 : fl [.str [], .slice0, .int .i64 0] [(0, 3, .agg [.str at', .slice0, .int .i64 0])] = some [.str at', .slice0, .int .i64 0] := rfl
          rw [f1] at rs7
          have hkf : posR at' r.fs ≤ r.fs.length := posR_le _ _
          have hq : (R1.l.take (posR at' r.fs) ++ ((⟨at', [], 0⟩ : Fl), AV.slice0) :: R1.l.drop (posR at' r.fs))[posR at' r.fs]? = some (⟨at', [], 0⟩, .slice0) := by
            rw [List.getElem?_append_right (by rw [List.length_take]; omega), List.length_take, Nat.min_eq_left hk, Nat.sub_self]; rfl
          obtain ⟨bb, oo, a1, a2, a3, a4, a5, a6⟩ := rs7.at hq
          have l7 := rs7.ld_f
          have o17 : Out [p] H1 H7 := oE
          have hy7 := hy1.out oE fun j hj q => hyp (List.mem_singleton.1 q ▸ hj)
          obtain ⟨G2, z1, G3, z2, G4, m1, g1, g2, g3, p3, p4, p5, fz⟩ := cat_c (H := H7) (x := .slice0) (l := []) .nil hy7 (fun v hv => by cases hv) (bs_one _) (by rw [bs_len]; simp only [List.length_nil]; omega)
          rw [List.nil_append] at g3
          obtain ⟨H8, e1, e2, e3, e4⟩ := rs7.setB hq a1 (bb := b) p5 g3.rw fz (by omega) hbb
          have l8 := (rs7.out0 p4).ld_f
          have l9 := (rs7.out0 p5).ld_f
          have sm3 := same_rw rs7.row.1.rw
          have e : appM m at' b = (0, { burnM m with fs := m.fs ++ [⟨at', b, 0⟩] }) := by unfold appM; rw [if_neg he, if_neg hfull, if_neg (by rw [hb]; simp), hlk]
          have sm2 := b4.ins (f := ⟨at', b, 0⟩) (by show (burnM m).fs.find? _ = none; rw [f2]; exact hlk) (Nat.zero_le _)
          rw [f2, f1] at sm2
          have efs : (r.fs.take (posR at' r.fs) ++ (⟨at', [], 0⟩ : Fl) :: r.fs.drop (posR at' r.fs)).set (posR at' r.fs) ⟨at', b, 0⟩ = r.fs.take (posR at' r.fs) ++ ⟨at', b, 0⟩ :: r.fs.drop (posR at' r.fs) := by
            rw [List.set_append_right _ _ (by rw [List.length_take]; omega), List.length_take, Nat.min_eq_left hkf, Nat.sub_self]; rfl
          have e2' : RS H8 p { blM r with fs := r.fs.take (posR at' r.fs) ++ ⟨at', b, 0⟩ :: r.fs.drop (posR at' r.fs) } { R1 with l := (R1.l.take (posR at' r.fs) ++ ((⟨at', [], 0⟩ : Fl), AV.slice0) :: R1.l.drop (posR at' r.fs)).set (posR at' r.fs) (⟨at', b, 0⟩, z2), xf := y3 } := by rw [← efs]; exact e2
          rw [e]
          have rg1 : Rgo p H1 R1 H7 { R1 with l := R1.l.take (posR at' r.fs) ++ ((⟨at', [], 0⟩ : Fl), AV.slice0) :: R1.l.drop (posR at' r.fs), xf := y3 } := Rgo.new oE (fun w hw => by
            rcases List.mem_append.1 hw with hw | hw
            · exact .inl (List.mem_of_mem_take hw)
            · rcases List.mem_cons.1 hw with rfl | hw
              · exact .inr (.inl fun j hj => by cases hj)
              · exact .inl (List.mem_of_mem_drop hw)) fy3
          refine ⟨H8, _, _, c_outriderref1_Store_Append ?_, e2', sm2, (b3.trans rg1).trans (Rgo.row ((p5.mono fun j hj => by cases hj).trans e3) fun w hw => ?_), b5⟩
          · unfold s_outriderref1_Store_Append
            simp only [k1, f0, hyl, fr, d0, d2, l1, l2, d3, b1, pl, f00, n1, l1', s1, c1, fl1, fl2, n2', c2, lC, s2, c3, st1, lB, SM_t sm, SM_t sx1, SM_t sx2, l7, m1, a1, a5, g1, g2, e1, l8, l9, SM_t sm3, k_s, k_x, Int.reduceBEq, Int.reduceBNe, Int.reduceLT, Int.reduceLE, Int.reduceGT, Int.reduceGE, Int.reduceNeg]
          · rcases List.mem_or_eq_of_mem_set hw with hw | rfl
            · exact .inl hw
            · exact .inr (.inl fz)
end
/-!  -/
theorem stAll {H : Hp} {i n el : Nat} {l vs : List AV} (h : Cs H i l el 0) (hn : n = vs.length) (hl : l.length = vs.length) (hv : vs.all oneC = true) : ∃ H', st n (.ptr i 0) (.agg vs) H = some H' ∧ Cs H' i vs el 0 ∧ Out [i] H H' ∧ H'.next = H.next := by
  obtain ⟨hi, c, hc, hg⟩ := h
  obtain ⟨H', c', q1, q2, q3, q4, q5⟩ := setCells_get vs H i 0 c 0 l.length el 0 hc (by omega) (Nat.le_refl _) (by omega) (fun k hk => by rw [Nat.zero_add, hg k (l[k]'(by omega)) (List.getElem?_eq_getElem (by omega))]; rfl) (List.all_eq_true.1 hv)
  refine ⟨H', ?_, ⟨by omega, c', ?_, fun k v hk => ?_⟩, ⟨by omega, fun j hj hn => q4 j (by simpa using hn)⟩, q2⟩
  · unfold st
    have : Nat.beq n vs.length = true := by subst hn; exact Nat.beq_refl _
    simp only [cellsV_agg, this, cond_true]
    exact q1
  · rw [q3, hl]
  · have := (List.getElem?_eq_some_iff.1 hk).1
    rw [q5, if_pos (by omega), Nat.sub_zero]; exact hk
section
variable {H : Hp} {p : Nat} {r : RM} {R : RLay} {m : SM}
theorem posS_loop (h : RS H p r R) (to' : List Nat) (x : AV) (j97 : Am.K.Fn 3) : ∀ (m i : Nat), i + m = R.l.length →
    l_outriderref1_Store_Swap JN GO cK j97 (.ptr p 0) (.str to') x (.int .i64 i) H = j97 (.ptr p 0) x (.int .i64 ((i + posR to' (r.fs.drop i) : Nat) : Int)) H := by
  intro m
  have hm := h.many
  rw [h.len] at hm
  have l1 := h.ld_f
  have l2 := h.lenx
  induction m with
  | zero =>
    intro i hi
    obtain rfl : i = R.l.length := by omega
    have d : decide (((R.l.length : Nat) : Int) < ((R.l.length : Nat) : Int)) = false := decide_eq_false (by omega)
    have e : posR to' (r.fs.drop R.l.length) = 0 := by rw [h.fs, List.drop_eq_nil_of_le (by simp)]; rfl
    rw [ql_outriderref1_Store_Swap, e, Nat.add_zero]
    simp only [bl_outriderref1_Store_Swap, l1, l2, d, k_s, k_x, Int.reduceBEq, Int.reduceBNe, Int.reduceLT, Int.reduceLE, Int.reduceGT, Int.reduceGE, Int.reduceNeg]
  | succ m ih =>
    intro i hi
    have hlt : i < R.l.length := by omega
    obtain ⟨q, hq⟩ : ∃ q, R.l[i]? = some q := ⟨_, List.getElem?_eq_getElem hlt⟩
    obtain ⟨b, o, a1, a2, a3, a4, a5, a6⟩ := h.at hq
    have d : decide ((i : Int) < ((R.l.length : Nat) : Int)) = true := decide_eq_true (by omega)
    have es : IntKind.wrap .i64 ((i : Int) + 1) = ((i + 1 : Nat) : Int) := by rw [wrap_i64 (by omega) (by omega)]; rfl
    rw [ql_outriderref1_Store_Swap, h.drop hq, posR]
    cases hb : ltL q.1.nm to' with
    | true =>
      rw [if_pos rfl, show i + (posR to' (r.fs.drop (i + 1)) + 1) = i + 1 + posR to' (r.fs.drop (i + 1)) by omega]
      simp only [bl_outriderref1_Store_Swap, l1, l2, d, a1, Nat.add_zero, a4, hb, es, ih (i + 1) (by omega), k_s, k_x, Int.reduceBEq, Int.reduceBNe, Int.reduceLT, Int.reduceLE, Int.reduceGT, Int.reduceGE, Int.reduceNeg]
    | false =>
      rw [if_neg (by simp), Nat.add_zero]
      simp only [bl_outriderref1_Store_Swap, l1, l2, d, a1, Nat.add_zero, a4, hb, k_s, k_x, Int.reduceBEq, Int.reduceBNe, Int.reduceLT, Int.reduceLE, Int.reduceGT, Int.reduceGE, Int.reduceNeg]
theorem Sim.perm_to (h : Sim m r) {gs : List Fl} (hp : m.fs.Perm gs) : Sim { m with fs := gs } r :=
  ⟨h.room, h.off, h.fuse, h.keep, h.perm.trans hp, h.srt, (hp.map _).nodup_iff.1 h.nd, fun f hf => h.sok f (hp.mem_iff.2 hf)⟩
theorem put_perm {fs : List Fl} (hn : (fs.map (·.nm)).Nodup) {x g : Fl} (hg : g ∈ fs) (hx : x.nm = g.nm) : (delF g.nm fs ++ [x]).Perm (setF g.nm x fs) := by
  obtain ⟨a, b, rfl⟩ := List.append_of_mem hg
  rw [List.map_append, List.map_cons, List.nodup_append, List.nodup_cons] at hn
  obtain ⟨_, ⟨n1, _⟩, n2⟩ := hn
  have ha : ∀ y ∈ a, y.nm ≠ g.nm := fun y hy q => n2 y.nm (List.mem_map.2 ⟨y, hy, rfl⟩) g.nm (.head _) q
  have hb : ∀ y ∈ b, y.nm ≠ g.nm := fun y hy q => n1 (List.mem_map.2 ⟨y, hy, q⟩)
  have e1 : delF g.nm (a ++ g :: b) = a ++ b := by
    unfold delF
    rw [List.filter_append, List.filter_cons, if_neg (by simp), List.filter_eq_self.2 (fun y hy => by simpa using ha y hy), List.filter_eq_self.2 (fun y hy => by simpa using hb y hy)]
  have e2 : setF g.nm x (a ++ g :: b) = a ++ x :: b := by
    unfold setF
    have mm : ∀ l : List Fl, (∀ y ∈ l, y.nm ≠ g.nm) → l.map (fun k => if k.nm = g.nm then x else k) = l := fun l hl => by
      conv => rhs; rw [← List.map_id l]
      exact List.map_congr_left fun y hy => if_neg (hl y hy)
    rw [List.map_append, List.map_cons, if_pos rfl, mm a ha, mm b hb]
  rw [e1, e2, List.append_assoc]
  exact (List.perm_append_singleton x b).append_left a
/-- a file under another name, laid where it belongs; the one that had the name is gone -/
theorem Sim.put (h : Sim m r) {x : Fl} (hx : x.sure ≤ x.b.length) :
    (StC.look m x.nm = none → Sim { m with fs := putF x m.fs } { r with fs := r.fs.take (posR x.nm r.fs) ++ x :: r.fs.drop (posR x.nm r.fs) }) ∧
      ∀ i g, r.fs[i]? = some g → g.nm = x.nm → Sim { m with fs := putF x m.fs } { r with fs := (r.fs.eraseIdx i).take (posR x.nm (r.fs.eraseIdx i)) ++ x :: (r.fs.eraseIdx i).drop (posR x.nm (r.fs.eraseIdx i)) } := by
  constructor
  · intro hn
    have : putF x m.fs = m.fs ++ [x] := by
      unfold putF
      have : m.fs.find? (fun g => g.nm == x.nm) = none := hn
      rw [this]; rfl
    rw [this]
    exact h.ins hn hx
  · intro i g hi hg
    have hgm : g ∈ m.fs := h.perm.mem_iff.1 (List.mem_of_getElem? hi)
    have hl := look_mem h.nd hgm
    have : putF x m.fs = setF x.nm x m.fs := by
      unfold putF
      have : m.fs.find? (fun k => k.nm == x.nm) = some g := by rw [← hg]; exact hl
      rw [this]; rfl
    rw [this]
    have h1 := h.erase hi
    have hnone : StC.look { m with fs := delF g.nm m.fs } x.nm = none := by
      unfold StC.look
      rw [List.find?_eq_none]
      intro k hk
      have := (List.mem_filter.1 hk).2
      rw [← hg]
      simpa using this
    have h2 := h1.ins hnone hx
    have h3 := h2.perm_to (gs := setF g.nm x m.fs) (put_perm h.nd hgm hg.symm)
    rw [← hg]
    rw [← hg] at h3
    exact h3
theorem same_agg {H : Hp} {es : Nat} {x1 : List Nat} {n1 : Int} {y : AV} {l : List AV} (h : Rw H es y l) (a b : AV) (ha : a = .str x1) (hb : b = .int .i64 n1) : same (.agg [a, y, b]) (.agg [a, y, b]) = true := by
  subst ha; subst hb
  have := same_rw h
  have hs : sameS y y = true := by cases h <;> exact this
  have h1 : sameS (.str x1) (.str x1) = true := by simp [sameS]
  have h2 : sameS (.int .i64 n1) (.int .i64 n1) = true := by simp [sameS]
  simp [same, sameL, h1, h2, hs]
/-- what lies in cells of its own is put in, where its name belongs -/
theorem putIn_c {X : Nat} {to' : List Nat} {y : AV} {b : List Nat} (h : RS H p r R) (hn : R.l.length < 64) (hX : Cs H X [.str to', y, .int .i64 ((b.length : Nat) : Int)] 76 0) (hXp : X ≠ p) (hy : Rw H 1 y (K.bs b)) (hp : p ∉ rid y) (hl : b.length ≤ 16777216) (hb : ∀ c ∈ b, c < 256) :
    (∀ j97 : Am.K.Fn 3, l_outriderref1_Store_Swap JN GO cK j97 (.ptr p 0) (.str to') (.ptr X 0) (.int .i64 0) H = j97 (.ptr p 0) (.ptr X 0) (.int .i64 ((posR to' r.fs : Nat) : Int)) H) ∧
    ∃ H2 H3 H4 H5 H6 H7 x1 y1 y2 x2 y3, newCells H [] 76 0 = some (H.next, H2) ∧ sll 3 R.xf none (some (.int .i64 ((posR to' r.fs : Nat) : Int))) none = some x1 ∧
      app' 76 3 [.str [], .slice0, .int .i64 0] false (.slice H.next 0 0 0 true 3) x1 H2 = some (y1, H3) ∧ newCells H3 [.str to', y, .int .i64 ((b.length : Nat) : Int)] 76 0 = some (H3.next, H4) ∧
      app' 76 3 [.str [], .slice0, .int .i64 0] false y1 (.slice H3.next 0 1 1 true 3) H4 = some (y2, H5) ∧ sll 3 R.xf (some (.int .i64 ((posR to' r.fs : Nat) : Int))) none none = some x2 ∧
      app' 76 3 [.str [], .slice0, .int .i64 0] false y2 x2 H5 = some (y3, H6) ∧ st 1 (.ptr p 1) y3 H6 = some H7 ∧
      RS H7 p { r with fs := r.fs.take (posR to' r.fs) ++ ⟨to', b, b.length⟩ :: r.fs.drop (posR to' r.fs) } { R with l := R.l.take (posR to' r.fs) ++ (⟨to', b, b.length⟩, y) :: R.l.drop (posR to' r.fs), xf := y3 } ∧ Out [] H H2 ∧ Out [] H H3 ∧ Out [] H H5 ∧ Out [] H H6 ∧ Out [p] H H7 ∧ (∀ j ∈ rid y3, H.next ≤ j) ∧ same x1 x1 = true ∧ same x2 x2 = true ∧
      fl [] [] = some [] ∧ lda 3 (.ptr X 0) H3 = some (.agg [.str to', y, .int .i64 ((b.length : Nat) : Int)]) ∧ lda 3 (.ptr X 0) H = some (.agg [.str to', y, .int .i64 ((b.length : Nat) : Int)]) ∧
      fl [.str [], .slice0, .int .i64 0] [(0, 3, .agg [.str to', y, .int .i64 ((b.length : Nat) : Int)])] = some [.str to', y, .int .i64 ((b.length : Nat) : Int)] ∧
      same (.agg [.str to', y, .int .i64 ((b.length : Nat) : Int)]) (.agg [.str to', y, .int .i64 ((b.length : Nat) : Int)]) = true := by
  have pl := fun j97 => posS_loop h to' (.ptr X 0) j97 R.l.length 0 (by omega)
  rw [List.drop_zero, Nat.zero_add] at pl
  have hk : posR to' r.fs ≤ R.l.length := by rw [← h.len]; exact posR_le _ _
  obtain ⟨H2, H3, H4, H5, H6, H7, x1, y1, y2, x2, y3, n1, s1, c1, n2, c2, s2, c3, st1, rs7, oA, oB, oC, oD, oE, fy3, sx1, sx2⟩ := ins_c h hk hn (f := ⟨to', b, b.length⟩) hy hp ⟨hl, hl, hb⟩
  exact ⟨pl, H2, H3, H4, H5, H6, H7, x1, y1, y2, x2, y3, n1, s1, c1, n2, c2, s2, c3, st1, rs7, oA, oB, oC, oD, oE, fy3, sx1, sx2, rfl, (hX.out oB fun z => by cases z).lda (n := 3) (o := 0) (by simp), hX.lda (n := 3) (o := 0) (by simp), rfl, same_agg hy _ _ rfl rfl⟩
theorem rswap_c (h : RS H p r R) (hs : Sim m r) (hkl : r.keep.length ≤ 16777216) (at' to' : List Nat) (hat : at'.length ≤ 1000000000000000000) (hto : to'.length ≤ 1000000000000000000) :
    RR H p R r.keep (swapM m at' to').1 (swapM m at' to').2 (cK (.func (.func 29) [] []) [.ptr p 0, .str at', .str to'] H) := by
  have l0 := h.ld_off
  rw [hs.off] at l0
  have g1 := good_c at' hat H
  have g2 := good_c to' hto H
  rw [goodN_ok] at g1 g2
  have f0 := find_c h at'
  have i1 := idxI_neg at' r.fs
  rw [hs.idxN] at i1
  cases ho : m.off with
  | true =>
    have e : swapM m at' to' = (11, m) := by unfold swapM; rw [if_pos (by unfold ofE; rw [if_pos ho])]
    rw [ho] at l0
    rw [e]
    refine ⟨H, R, r, c_outriderref1_Store_Swap ?_, h, hs, Rgo.refl _ _ _, rfl⟩
    unfold s_outriderref1_Store_Swap
    simp only [l0, k_s, k_x, Int.reduceBEq, Int.reduceBNe, Int.reduceLT, Int.reduceLE, Int.reduceGT, Int.reduceGE, Int.reduceNeg]
  | false =>
    rw [ho] at l0
    have n11 : ofE m at' ≠ 11 := by
      unfold ofE
      rw [if_neg (by rw [ho]; simp)]
      split
      · omega
      · split <;> omega
    cases hg1 : okName at' with
    | false =>
      have e1 : ofE m at' = 1 := by unfold ofE; rw [if_neg (by rw [ho]; simp), if_pos hg1]
      have e : swapM m at' to' = (1, m) := by
        unfold swapM
        rw [if_neg n11]
        split
        · rfl
        · rw [if_pos (by rw [e1]; simp), e1]
      rw [hg1] at g1
      rw [e]
      refine ⟨H, R, r, c_outriderref1_Store_Swap ?_, h, hs, Rgo.refl _ _ _, rfl⟩
      unfold s_outriderref1_Store_Swap
      simp only [l0, g1, not_b, k_s, k_x, Int.reduceBEq, Int.reduceBNe, Int.reduceLT, Int.reduceLE, Int.reduceGT, Int.reduceGE, Int.reduceNeg]
    | true =>
      rw [hg1] at g1
      cases hg2 : okName to' with
      | false =>
        have e : swapM m at' to' = (1, m) := by unfold swapM; rw [if_neg n11, if_pos hg2]
        rw [hg2] at g2
        rw [e]
        refine ⟨H, R, r, c_outriderref1_Store_Swap ?_, h, hs, Rgo.refl _ _ _, rfl⟩
        unfold s_outriderref1_Store_Swap
        simp only [l0, g1, g2, not_b, k_s, k_x, Int.reduceBEq, Int.reduceBNe, Int.reduceLT, Int.reduceLE, Int.reduceGT, Int.reduceGE, Int.reduceNeg]
      | true =>
        rw [hg2] at g2
        cases hlk : StC.look m at' with
        | none =>
          have e1 : ofE m at' = 4 := by unfold ofE; rw [if_neg (by rw [ho]; simp), if_neg (by rw [hg1]; simp), hlk]; rfl
          have e : swapM m at' to' = (4, m) := by unfold swapM; rw [if_neg n11, if_neg (by rw [hg2]; simp), if_pos (by rw [e1]; simp), e1]
          rw [hlk] at i1
          have d2 : decide (idxI at' r.fs < 0) = true := i1
          rw [e]
          refine ⟨H, R, r, c_outriderref1_Store_Swap ?_, h, hs, Rgo.refl _ _ _, rfl⟩
          unfold s_outriderref1_Store_Swap
          simp only [l0, g1, g2, not_b, f0, d2, k_s, k_x, Int.reduceBEq, Int.reduceBNe, Int.reduceLT, Int.reduceLE, Int.reduceGT, Int.reduceGE, Int.reduceNeg]
        | some g =>
          have e1 : ofE m at' = 0 := by unfold ofE; rw [if_neg (by rw [ho]; simp), if_neg (by rw [hg1]; simp), hlk]; rfl
          obtain ⟨i, q, q1, q2, q3, q4, q5, q6⟩ := file_at h hs e1
          rw [hlk] at q4 i1
          have q4' : g = q.1 := Option.some.inj q4
          subst q4'
          rw [q3] at f0 i1
          have d2 : decide ((i : Int) < 0) = false := i1
          obtain ⟨H1, R1, b1, b2, b3, b4, b5, b6⟩ := up_c h hs hkl
          cases hb : burnB m with
          | false =>
            rw [hb] at b1
            have e : swapM m at' to' = (11, burnM m) := by unfold swapM; rw [if_neg n11, if_neg (by rw [hg2]; simp), if_neg (by rw [e1]; simp), if_pos hb]
            rw [e]
            refine ⟨H1, R1, _, c_outriderref1_Store_Swap ?_, b2, b4, b3, b5⟩
            unfold s_outriderref1_Store_Swap
            simp only [l0, g1, g2, not_b, f0, d2, b1, k_s, k_x, Int.reduceBEq, Int.reduceBNe, Int.reduceLT, Int.reduceLE, Int.reduceGT, Int.reduceGE, Int.reduceNeg]
          | true =>
            rw [hb] at b1
            obtain ⟨rfl, o1, f1, f2⟩ := b6 hb
            have l1 := b2.ld_f
            have f3 := find_c b2 at'
            rw [f1, q3] at f3
            obtain ⟨bb, oo, a1, a2, a3, a4, a5, a6⟩ := b2.at q1
            have hsz := h.szq q1
            have hyr := b2.bs q (List.mem_of_getElem? q1)
            have hyo := rw_one hyr
            have hyl := hyr.len1
            rw [bs_len] at hyl
            have ldq : lda 3 (.ptr bb oo) H1 = some (.agg (rcell q)) := by
              show (cellsAt H1 bb oo 3).map AV.agg = _
              rw [a3]; rfl
            obtain ⟨H2, n1, n2, n3, n4⟩ := newCells_ok H1 [.str [], .slice0, .int .i64 0] 76 0 (by simp)
            have hltp := b2.lt p (rft_cases.2 (.inl rfl))
            have hne : H1.next ≠ p := by omega
            obtain ⟨H3, s1, s2, s3, s4⟩ := stAll (n := 3) (vs := rcell q) n2 rfl rfl (List.all_eq_true.2 (rcell_one hyo))
            obtain ⟨H4, t1, t2, t3, t4⟩ := K.st1 s2 (by omega) (o := 2) (by simp [rcell]) (v := .int .i64 ((q.1.b.length : Nat) : Int)) rfl
            obtain ⟨H5, u1, u2, u3, u4⟩ := K.st1 t2 (by omega) (o := 0) (by simp [rcell]) (v := .str to') rfl
            have cX : Cs H5 H1.next [.str to', q.2, .int .i64 ((q.1.b.length : Nat) : Int)] 76 0 := u2
            have nn : ∀ j, j < H1.next → j ∉ [H1.next] := fun j hj z => by rw [List.mem_singleton.1 z] at hj; omega
            have o13 : Out [] H1 H3 := n3.then s3 fun j hj => by rw [List.mem_singleton.1 hj]; exact .inr (Nat.le_refl _)
            have o14 : Out [] H1 H4 := o13.then t3 fun j hj => by rw [List.mem_singleton.1 hj]; exact .inr (Nat.le_refl _)
            have o15 : Out [] H1 H5 := o14.then u3 fun j hj => by rw [List.mem_singleton.1 hj]; exact .inr (Nat.le_refl _)
            have h5 := b2.out0 o15
            have f5 := find_c h5 at'
            rw [f1, q3] at f5
            have hlt := (List.getElem?_eq_some_iff.1 q1).1
            obtain ⟨H6, s6, w1, w2, w3, w4⟩ := gone_c h5 hlt
            have sm6 := b4.erase (i := i) (f := q.1) (by rw [f1]; exact q5)
            rw [f2, q2] at sm6
            rw [f1] at w2 sm6
            have cX6 := cX.out w3 fun z => hne (List.mem_singleton.1 z)
            have hyr6 := (hyr.out o15 fun _ _ z => by cases z).out w3 fun j hj z => (b2.pq q (List.mem_of_getElem? q1) j hj).1 (List.mem_singleton.1 z)
            have ldy3 : ld (.ptr H1.next 1) H3 = some q.2 := s2.ld (o := 1) rfl
            have sm := same_rw h.row.1.rw
            have e : swapM m at' to' = (0, { burnM m with fs := putF ⟨to', q.1.b, q.1.b.length⟩ (delF at' m.fs) }) := by
              unfold swapM; rw [if_neg n11, if_neg (by rw [hg2]; simp), if_neg (by rw [e1]; simp), if_neg (by rw [hb]; simp), hlk]
            have hlen5 : (R1.l.eraseIdx i).length + 1 = R1.l.length := by rw [List.length_eraseIdx_of_lt hlt]; omega
            have hm1 := b2.many
            rw [b2.len] at hm1
            obtain ⟨pA, pB⟩ := sm6.put (x := ⟨to', q.1.b, q.1.b.length⟩) (Nat.le_refl _)
            have o16 : Out [p] H1 H6 := (o15.mono fun j hj => by cases hj).trans w3
            have memE : ∀ {l : List (Fl × AV)}, (∀ z ∈ l, z ∈ R1.l) → ∀ k, ∀ w ∈ l.take k ++ ((⟨to', q.1.b, q.1.b.length⟩ : Fl), q.2) :: l.drop k, w ∈ R1.l ∨ (∀ j ∈ rid w.2, H1.next ≤ j) ∨ ∃ q' ∈ R1.l, q'.2 = w.2 := fun hl k w hw => by
              rcases List.mem_append.1 hw with hw | hw
              · exact .inl (hl _ (List.mem_of_mem_take hw))
              · rcases List.mem_cons.1 hw with rfl | hw
                · exact .inr (.inr ⟨q, List.mem_of_getElem? q1, rfl⟩)
                · exact .inl (hl _ (List.mem_of_mem_drop hw))
            have f6 := find_c w2 to'
            have i6 := idxI_neg to' (r.fs.eraseIdx i)
            have ex : (decide ((0 : Int) ≤ idxI to' (r.fs.eraseIdx i))) = !(idx to' (r.fs.eraseIdx i)).isNone := by
              rw [← i6]
              by_cases z : idxI to' (r.fs.eraseIdx i) < 0
              · rw [decide_eq_true z, decide_eq_false (by omega)]; rfl
              · rw [decide_eq_false z, decide_eq_true (by omega)]; rfl
            have hpy : p ∉ rid q.2 := h.pl q (List.mem_of_getElem? q1)
            have hX6 := cX6
            have fsX : ({ blM r with fs := r.fs.eraseIdx i } : RM).fs = r.fs.eraseIdx i := rfl
            cases hi6 : idx to' (r.fs.eraseIdx i) with
            | none =>
              rw [hi6] at ex
              have d6 : decide ((0 : Int) ≤ idxI to' (r.fs.eraseIdx i)) = false := ex
              have hnone : StC.look { burnM m with fs := delF at' m.fs } to' = none := by
                rw [← sm6.file]; unfold fileR; rw [hi6]
              have sF := pA hnone
              obtain ⟨pl, K2, K3, K4, K5, K6, K7, x1, y1, y2, x2, y3, n1', s1', c1', n2', c2', s2', c3', st1', rs7, oA, oB, oC, oD, oE, fy3, sx1, sx2, e7, e8, e8', e9, e10⟩ := putIn_c w2 (show (R1.l.eraseIdx i).length < 64 by omega) cX6 hne hyr6 hpy (by omega) hsz.2.2
              have lB := (w2.out0 oB).ld_f
              have lC := (w2.out0 oC).ld_f
              have l6 := w2.ld_f
              have sm66 := same_rw w2.row.1.rw
              rw [e]
              refine ⟨K7, _, _, c_outriderref1_Store_Swap ?_, rs7, sF, b3.trans (Rgo.new (R := R1) (o16.trans oE) (memE (fun z hz => (List.eraseIdx_sublist _ _).subset hz) _) fun j hj => by have := fy3 j hj; have := o16.1; omega), b5⟩
              · unfold s_outriderref1_Store_Swap
                simp only [l0, g1, g2, not_b, f0, d2, b1, l1, f3, a1, ldq, n1, s1, SM_t sm, ldy3, hyl, t1, u1, Nat.zero_add, f5, w1, f6, d6, pl, e7, n1', l6, s1', c1', e8, e8', e9, n2', c2', lC, s2', c3', st1', lB, SM_t e10, SM_t sm66, SM_t sx1, SM_t sx2, k_s, k_x, Int.reduceBEq, Int.reduceBNe, Int.reduceLT, Int.reduceLE, Int.reduceGT, Int.reduceGE, Int.reduceNeg]
            | some k2 =>
              rw [hi6] at ex
              have d6 : decide ((0 : Int) ≤ idxI to' (r.fs.eraseIdx i)) = true := ex
              obtain ⟨z, z1, z2, z3, z4⟩ := w2.idxAt hi6
              have z5 := w2.fsAt z1
              have z4' : idxI to' (r.fs.eraseIdx i) = (k2 : Int) := z4
              rw [z4'] at d6 f6
              have sF := pB k2 z.1 z5 z2
              have hlt2 := (List.getElem?_eq_some_iff.1 z1).1
              obtain ⟨G6, t6, v1, v2, v3, v4⟩ := gone_c w2 hlt2
              have cX7 := cX6.out v3 fun z => hne (List.mem_singleton.1 z)
              have hyr7 := hyr6.out v3 fun j hj z => (b2.pq q (List.mem_of_getElem? q1) j hj).1 (List.mem_singleton.1 z)
              have hlen7 : ((R1.l.eraseIdx i).eraseIdx k2).length < 64 := by rw [List.length_eraseIdx_of_lt hlt2]; show (R1.l.eraseIdx i).length - 1 < 64; omega
              obtain ⟨pl, K2, K3, K4, K5, K6, K7, x1, y1, y2, x2, y3, n1', s1', c1', n2', c2', s2', c3', st1', rs7, oA, oB, oC, oD, oE, fy3, sx1, sx2, e7, e8, e8', e9, e10⟩ := putIn_c v2 hlen7 cX7 hne hyr7 hpy (by omega) hsz.2.2
              have lB := (v2.out0 oB).ld_f
              have lC := (v2.out0 oC).ld_f
              have l6 := v2.ld_f
              have sm66 := same_rw v2.row.1.rw
              have o17 := o16.trans v3
              rw [e]
              refine ⟨K7, _, _, c_outriderref1_Store_Swap ?_, rs7, sF, b3.trans (Rgo.new (R := R1) (o17.trans oE) (memE (fun z hz => (List.eraseIdx_sublist _ _).subset ((List.eraseIdx_sublist _ _).subset hz)) _) fun j hj => by have := fy3 j hj; have := o17.1; omega), b5⟩
              unfold s_outriderref1_Store_Swap
              simp only [l0, g1, g2, not_b, f0, d2, b1, l1, f3, a1, ldq, n1, s1, SM_t sm, ldy3, hyl, t1, u1, Nat.zero_add, f5, w1, f6, d6, v1, pl, e7, n1', l6, s1', c1', e8, e8', e9, n2', c2', lC, s2', c3', st1', lB, SM_t e10, SM_t sm66, SM_t sx1, SM_t sx2, k_s, k_x, Int.reduceBEq, Int.reduceBNe, Int.reduceLT, Int.reduceLE, Int.reduceGT, Int.reduceGE, Int.reduceNeg]
end
/-!  -/
/-! a row of acts -/
structure Ac where
  op : Int
  n : Int
  nm : List Nat
  to' : List Nat
  b : List Nat
  keep : List Int
structure AcV where
  a : Ac
  y : AV
  k : AV
def acell (q : AcV) : List AV := [.int .i64 q.a.op, .int .i64 q.a.n, .str q.a.nm, .str q.a.to', q.y, q.k]
abbrev ActTy : Ty := .struct 6 [(0, 1, .int .i64), (1, 1, .int .i64), (2, 1, .str), (3, 1, .str), (4, 1, .slice 1 (.int .u8)), (5, 1, .slice 1 (.int .i64))]
structure AcOK (H : Hp) (q : AcV) : Prop where
  n : -9223372036854775808 ≤ q.a.n ∧ q.a.n ≤ 9223372036854775807
  nm : q.a.nm.length ≤ 1000000000000000000
  to' : q.a.to'.length ≤ 1000000000000000000
  y : Rw H 1 q.y (K.bs q.a.b)
  k : Rw H 1 q.k (ints q.a.keep)
  b : ∀ c ∈ q.a.b, c < 256
def Ax (H : Hp) (x : AV) (l : List AcV) : Prop := RL H 6 x (l.map acell) ∧ ∀ q ∈ l, AcOK H q
theorem AcOK.out {H H' : Hp} {q : AcV} (h : AcOK H q) (k : Out [] H H') : AcOK H' q := { h with y := h.y.out k fun _ _ z => (by cases z), k := h.k.out k fun _ _ z => (by cases z) }
theorem pickL {α : Type} (Q : Nat → α → Prop) : ∀ n, (∀ j, j < n → ∃ a, Q j a) → ∃ l : List α, l.length = n ∧ ∀ j a, l[j]? = some a → Q j a
  | 0, _ => ⟨[], rfl, fun j a h => by simp at h⟩
  | n + 1, h => by
    obtain ⟨l, hl, hq⟩ := pickL Q n fun j hj => h j (by omega)
    obtain ⟨a, ha⟩ := h n (by omega)
    refine ⟨l ++ [a], by simp [hl], fun j b hb => ?_⟩
    by_cases hj : j < l.length
    · rw [List.getElem?_append_left hj] at hb
      exact hq j b hb
    · rw [List.getElem?_append_right (by omega)] at hb
      have hlt := (List.getElem?_eq_some_iff.1 hb).1
      rw [List.length_singleton] at hlt
      have e : j = n := by omega
      subst e
      rw [hl, Nat.sub_self] at hb
      cases hb
      exact ha
theorem is_i {H : Hp} {l : List AV} {d : D} (h : Is H (.int .i64) l d) : ∃ z, l = [.int .i64 z] ∧ -9223372036854775808 ≤ z ∧ z ≤ 9223372036854775807 := by
  cases h with
  | int k z h =>
    simp only [IntKind.min, IntKind.max, IntKind.signed, IntKind.bits] at h
    refine ⟨z, rfl, ?_⟩
    simp at h; omega
theorem is_s {H : Hp} {l : List AV} {d : D} (h : Is H .str l d) : ∃ s, l = [.str s] ∧ s.length ≤ 1000000000000000000 := by
  cases h with
  | str s h hl =>
    refine ⟨s, rfl, Nat.le_trans hl ?_⟩
    have : Go.reachBytes ≤ 1000000000000000000 := by decide
    exact this
theorem is_b {H : Hp} {l : List AV} {d : D} (h : Is H (.slice 1 (.int .u8)) l d) : ∃ x b, l = [x] ∧ Rw H 1 x (K.bs b) ∧ ∀ c ∈ b, c < 256 := by
  cases h with
  | slice hr hl hd =>
    obtain ⟨b, h1, h2⟩ := is_bytes (.slice hr hl hd)
    exact ⟨_, b, rfl, h1, h2⟩
theorem is_is {H : Hp} {x : AV} {d : D} (h : Is H (.slice 1 (.int .i64)) [x] d) : ∃ b : List Int, Rw H 1 x (ints b) ∧ ∀ c ∈ b, -9223372036854775808 ≤ c ∧ c ≤ 9223372036854775807 := by
  refine row_of (fun (b : Int) => AV.int .i64 b) (fun b => -9223372036854775808 ≤ b ∧ b ≤ 9223372036854775807) (fun l d h => ?_) h
  cases h with
  | int k z h =>
    simp only [IntKind.min, IntKind.max, IntKind.signed, IntKind.bits] at h
    refine ⟨z, rfl, ?_⟩
    simp at h; omega
theorem is_k {H : Hp} {l : List AV} {d : D} (h : Is H (.slice 1 (.int .i64)) l d) : ∃ x b, l = [x] ∧ Rw H 1 x (ints b) := by
  cases h with
  | slice hr hl hd =>
    obtain ⟨b, h1, h2⟩ := is_is (.slice hr hl hd)
    exact ⟨_, b, rfl, h1⟩
theorem six {l : List AV} {a b c d e f : AV} (hl : l.length = 6) (h0 : (l.drop 0).take 1 = [a]) (h1 : (l.drop 1).take 1 = [b]) (h2 : (l.drop 2).take 1 = [c]) (h3 : (l.drop 3).take 1 = [d]) (h4 : (l.drop 4).take 1 = [e]) (h5 : (l.drop 5).take 1 = [f]) : l = [a, b, c, d, e, f] := by
  match l, hl with
  | [a', b', c', d', e', f'], _ =>
    simp at h0 h1 h2 h3 h4 h5
    simp [h0, h1, h2, h3, h4, h5]
theorem flat_of {es : Nat} : ∀ {L : List (List AV)} {cs : List AV}, cs.length = L.length * es → (∀ i c, L[i]? = some c → (cs.drop (i * es)).take es = c ∧ c.length = es) → L.flatten = cs
  | [], cs, hl, _ => by simp at hl; simp [hl]
  | c :: L, cs, hl, h => by
    obtain ⟨h1, h2⟩ := h 0 c rfl
    rw [Nat.zero_mul, List.drop_zero] at h1
    have ih := flat_of (L := L) (cs := cs.drop es) (es := es) (by rw [List.length_drop, hl, List.length_cons, Nat.add_mul, Nat.one_mul]; omega) fun i d hd => by
      obtain ⟨g1, g2⟩ := h (i + 1) d hd
      refine ⟨?_, g2⟩
      rw [List.drop_drop, show es + i * es = (i + 1) * es by rw [Nat.add_mul, Nat.one_mul]; omega]
      exact g1
    rw [List.flatten_cons, ih, ← h1, List.take_append_drop]
theorem acts_of {H : Hp} {x : AV} {d : D} (h : Is H (.slice 6 ActTy) [x] d) : ∃ l, Ax H x l := by
  cases h with
  | @slice _ _ _ cs ds hr hl hd =>
    obtain ⟨l, h1, h2⟩ := pickL (fun j (q : AcV) => (cs.drop (j * 6)).take 6 = acell q ∧ AcOK H q) ds.length (fun j hj => by
      have hs := hd j _ (List.getElem?_eq_getElem hj)
      generalize hL : (cs.drop (j * 6)).take 6 = L at hs ⊢
      generalize ds[j] = dd at hs
      cases hs with
      | @struct _ _ _ es q1 q2 q3 =>
        simp only [List.length_cons, List.length_nil] at q2
        obtain ⟨a, a1, _⟩ := is_i (q3 0 _ _ rfl (List.getElem?_eq_getElem (by omega)))
        obtain ⟨b, b1, b2⟩ := is_i (q3 1 _ _ rfl (List.getElem?_eq_getElem (by omega)))
        obtain ⟨c, c1, c2⟩ := is_s (q3 2 _ _ rfl (List.getElem?_eq_getElem (by omega)))
        obtain ⟨e, e1, e2⟩ := is_s (q3 3 _ _ rfl (List.getElem?_eq_getElem (by omega)))
        obtain ⟨y, f, f1, f2, f3⟩ := is_b (q3 4 _ _ rfl (List.getElem?_eq_getElem (by omega)))
        obtain ⟨k, g, g1, g2⟩ := is_k (q3 5 _ _ rfl (List.getElem?_eq_getElem (by omega)))
        exact ⟨⟨⟨a, b, c, e, f, g⟩, y, k⟩, six q1 a1 b1 c1 e1 f1 g1, b2, c2, e2, f2, g2, f3⟩)
    refine ⟨l, ⟨?_, fun c hc => by obtain ⟨a, _, rfl⟩ := List.mem_map.1 hc; rfl⟩, fun q hq => ?_⟩
    · rw [flat_of (cs := cs) (es := 6) (L := l.map acell) (by rw [List.length_map, hl, h1]) fun i c hc => by
        rw [List.getElem?_map, Option.map_eq_some_iff] at hc
        obtain ⟨a, ha, rfl⟩ := hc
        exact ⟨(h2 i a ha).1, rfl⟩]
      exact hr
    · obtain ⟨j, hj⟩ := List.mem_iff_getElem?.1 hq
      exact (h2 j q hj).2
/-! texts -/
theorem texts_loop {H : Hp} {x y : AV} {l : List (List Nat)} (hx : Rw H 1 x (strs l)) (hy : Rw H 1 y (strs l)) (hl : l.length ≤ 1000000) (j13 : Am.K.Fn 0) : ∀ (m i : Nat), i + m = l.length → l_outriderlaw5_texts JN GO cK j13 x y (.int .i64 i) H = j13 H := by
  have h1 := hx.len1
  have h2 := hy.len1
  rw [show (strs l).length = l.length from by simp [strs]] at h1 h2
  intro m
  induction m with
  | zero =>
    intro i hi
    obtain rfl : i = l.length := by omega
    have d : decide (((l.length : Nat) : Int) < ((l.length : Nat) : Int)) = false := decide_eq_false (by omega)
    rw [ql_outriderlaw5_texts]
    simp only [bl_outriderlaw5_texts, h1, d, k_s, k_x, Int.reduceBEq, Int.reduceBNe, Int.reduceLT, Int.reduceLE, Int.reduceGT, Int.reduceGE, Int.reduceNeg]
  | succ m ih =>
    intro i hi
    have hlt : i < l.length := by omega
    have hv : (strs l)[i]? = some (.str l[i]) := by simp [strs, hlt]
    obtain ⟨q1, a1, a2⟩ := hx.ia1 hv .i64
    obtain ⟨q2, b1, b2⟩ := hy.ia1 hv .i64
    have d : decide ((i : Int) < ((l.length : Nat) : Int)) = true := decide_eq_true (by omega)
    have es : IntKind.wrap .i64 ((i : Int) + 1) = ((i + 1 : Nat) : Int) := by rw [wrap_i64 (by omega) (by omega)]; rfl
    have e : (l[i] == l[i]) = true := by simp
    rw [ql_outriderlaw5_texts]
    simp only [bl_outriderlaw5_texts, h1, d, a1, a2, b1, b2, e, es, ih (i + 1) (by omega), k_s, k_x, Int.reduceBEq, Int.reduceBNe, Int.reduceLT, Int.reduceLE, Int.reduceGT, Int.reduceGE, Int.reduceNeg]
theorem texts_c {H : Hp} {x y : AV} {l : List (List Nat)} (hx : Rw H 1 x (strs l)) (hy : Rw H 1 y (strs l)) (hl : l.length ≤ 1000000) : cK (.func (.func 24) [] []) [x, y] H = some (.bool true, H) := by
  have h0 := fun j13 => texts_loop hx hy hl j13 l.length 0 (by omega)
  have z : ((0 : Nat) : Int) = 0 := rfl
  rw [z] at h0
  have h1 := hx.len1
  have h2 := hy.len1
  rw [show (strs l).length = l.length from by simp [strs]] at h1 h2
  have e : (((l.length : Nat) : Int) != ((l.length : Nat) : Int)) = false := by simp
  refine c_outriderlaw5_texts ?_
  unfold s_outriderlaw5_texts
  simp only [h1, h2, e, h0, k_s, k_x, Int.reduceBEq, Int.reduceBNe, Int.reduceLT, Int.reduceLE, Int.reduceGT, Int.reduceGE, Int.reduceNeg]
/-! the two stores, side by side -/
structure PI (H0 H : Hp) (p q : Nat) (m : SM) (r : RM) (L : Lay) (R : RLay) : Prop where
  o : Out [] H0 H
  st : St H p m L
  rs : RS H q r R
  sim : Sim m r
  fp : ∀ j ∈ foot p L, H0.next ≤ j
  fr : ∀ j ∈ rft q R, H0.next ≤ j
  dj : ∀ j ∈ foot p L, j ∉ rft q R
  kl : m.keep.length ≤ 16777216
section
variable {H0 H : Hp} {p q : Nat} {m : SM} {r : RM} {L : Lay} {R : RLay}
theorem PI.rk (h : PI H0 H p q m r L R) : r.keep.length ≤ 16777216 := by rw [h.sim.keep]; exact h.kl
theorem PI.quiet {H' : Hp} (h : PI H0 H p q m r L R) (k : Out [] H H') : PI H0 H' p q m r L R :=
  ⟨h.o.trans k, h.st.out k fun _ _ z => (by cases z), h.rs.out0 k, h.sim, h.fp, h.fr, h.dj, h.kl⟩
theorem PI.both {H1 : Hp} {m' : SM} {L' : Lay} (h : PI H0 H p q m r L R) (s : St H1 p m' L') (g : Go' p H L H1 L') : RS H1 q r R ∧ Out [] H0 H1 ∧
    ∀ {H2 : Hp} {R' : RLay} {r' : RM}, RS H2 q r' R' → Sim m' r' → Rgo q H1 R H2 R' → r'.keep.length ≤ 16777216 → PI H0 H2 p q m' r' L' R' := by
  have r1 := h.rs.out g.1 fun j hj z => h.dj j z hj
  have o1 : Out [] H0 H1 := h.o.then g.1 fun j hj => .inr (h.fp j hj)
  have hol := h.o.1
  have hgl := g.1.1
  have hlt := h.rs.lt
  have fp1 : ∀ j ∈ foot p L', H0.next ≤ j := fun j hj => (g.2 j hj).elim (h.fp j) fun z => by omega
  have dj1 : ∀ j ∈ foot p L', j ∉ rft q R := fun j hj z => (g.2 j hj).elim (fun w => h.dj j w z) fun w => by have := hlt j z; omega
  have slt := s.lt
  refine ⟨r1, o1, fun rs' sm g' hk => ⟨o1.then g'.1 fun j hj => .inr (h.fr j hj), s.out g'.1 fun j hj => dj1 j hj, rs', sm, fp1, fun j hj => (g'.2 j hj).elim (h.fr j) fun z => by omega, fun j hj z => ?_, by rw [← sm.keep]; exact hk⟩⟩
  rcases g'.2 j z with w | w
  · exact dj1 j hj w
  · have := slt j hj; omega
end
end Go.Proofs.YtnabkcdchklnpaaDoor.StP
namespace Go.Proofs.YtnabkcdchklnpaaDoor.StP
open Go Am Am.K StEnv StK StC
set_option linter.unusedVariables false
set_option linter.unusedSimpArgs false
set_option maxRecDepth 10000
set_option maxHeartbeats 1000000
/-!  -/
def Ends (x : Option (AV × Hp)) : Prop := ∃ H', x = some (.bool true, H')
theorem JN_ex {m : Nat} {f : Am.K.Fn m → Am.K.R} {k : Am.K.Fn m} {C : Am.K.R → Prop} (T : Am.K.Fn m → Prop) (hk : T k) (hf : ∀ t, T t → C (f t)) : C (JN m f k) := hf k hk
theorem JN_hd {m : Nat} {f : Am.K.Fn m → Am.K.R} {k : Am.K.Fn m} {C : Am.K.R → Prop} (h : C (f k)) : C (JN m f k) := h
theorem same_str (s : List Nat) : same (.str s) (.str s) = true := by simp [same, sameS]
theorem same_int (n : Int) : same (.int .i64 n) (.int .i64 n) = true := by simp [same, sameS]
theorem same_bool (n : Bool) : same (.bool n) (.bool n) = true := by simp [same, sameS]
section
variable {H0 H : Hp} {p q : Nat} {m : SM} {r : RM} {L : Lay} {R : RLay}
theorem on_sim (h : Sim m r) : Sim { m with off := false } { r with off := false } := ⟨h.room, rfl, h.fuse, h.keep, h.perm, h.srt, h.nd, h.sok⟩
theorem fuse_sim (h : Sim m r) (calls : Int) (kl : List Int) : Sim (fuseM m calls kl) (rfuseM r calls kl) := by
  unfold fuseM rfuseM
  rw [h.off]
  split
  · exact h
  · exact ⟨h.room, rfl, rfl, rfl, h.perm, h.srt, h.nd, h.sok⟩
theorem readM_byte (h : Okm m) (at' : List Nat) : ∀ c ∈ readM m at', c < 256 := by
  intro c hc
  unfold readM at hc
  split at hc
  · cases hl : StC.look m at' with
    | none => rw [hl] at hc; cases hc
    | some f =>
      rw [hl] at hc
      exact h.byte f (List.mem_of_find?_eq_some hl) c hc
  · cases hc
theorem plays_loop {xl : AV} {l : List AcV} (hx : Ax H0 xl l) (hl : l.length ≤ 50) : ∀ (k i : Nat) (H : Hp) (m : SM) (r : RM) (L : Lay) (R : RLay), i + k = l.length → PI H0 H p q m r L R →
    Ends (l_outriderlaw5_StorePlays JN GO cK (fun h => some (.bool true, h)) xl (.ptr p 0) (.ptr q 0) (.int .i64 i) H) := by
  intro k
  induction k with
  | zero =>
    intro i H m r L R hi h
    obtain rfl : i = l.length := by omega
    have l1 := (hx.1.out0 h.o).len (by decide)
    rw [List.length_map] at l1
    have d : decide (((l.length : Nat) : Int) < ((l.length : Nat) : Int)) = false := decide_eq_false (by omega)
    refine ⟨H, ?_⟩
    rw [ql_outriderlaw5_StorePlays]
    simp only [bl_outriderlaw5_StorePlays, l1, d, k_s, k_x, Int.reduceBEq, Int.reduceBNe, Int.reduceLT, Int.reduceLE, Int.reduceGT, Int.reduceGE, Int.reduceNeg]
  | succ k ih =>
    intro i H m r L R hi h
    have hlt : i < l.length := by omega
    obtain ⟨a, ha⟩ : ∃ a, l[i]? = some a := ⟨_, List.getElem?_eq_getElem hlt⟩
    have hxo := hx.1.out0 h.o
    have l1 := hxo.len (by decide)
    rw [List.length_map] at l1
    have d : decide ((i : Int) < ((l.length : Nat) : Int)) = true := decide_eq_true (by omega)
    have es : IntKind.wrap .i64 ((i : Int) + 1) = ((i + 1 : Nat) : Int) := by rw [wrap_i64 (by omega) (by omega)]; rfl
    obtain ⟨b, o, a1, a2, a3, a4, a5⟩ := hxo.at (by decide) (i := i) (c := acell a) (by rw [List.getElem?_map, ha]; rfl)
    have ldc : lda 6 (.ptr b o) H = some (.agg (acell a)) := by
      show (cellsAt H b o 6).map AV.agg = _
      rw [a4]; rfl
    have hok := (hx.2 a (List.mem_of_getElem? ha)).out h.o
    obtain ⟨H1, n1, n2, n3, n4⟩ := newCells_ok H [.int .i64 0, .int .i64 0, .str [], .str [], .slice0, .slice0] 53 0 (by simp)
    have hone : (acell a).all oneC = true := by
      rw [List.all_eq_true]
      intro v hv
      simp only [acell, List.mem_cons, List.mem_nil_iff, or_false] at hv
      rcases hv with rfl | rfl | rfl | rfl | rfl | rfl
      · rfl
      · rfl
      · rfl
      · rfl
      · exact rw_one hok.y
      · exact rw_one hok.k
    obtain ⟨H2, s1, s2, s3, s4⟩ := stAll (n := 6) (vs := acell a) n2 rfl rfl hone
    have o2 : Out [] H H2 := n3.then s3 fun j hj => by rw [List.mem_singleton.1 hj]; exact .inr (Nat.le_refl _)
    have h2 := h.quiet o2
    have hok2 := hok.out o2
    have hX : H.next < H2.next := by have := n2.1; have := s3.1; omega
    have c0 : ld (.ptr H.next 0) H2 = some (.int .i64 a.a.op) := s2.ld (o := 0) rfl
    have c1 : ld (.ptr H.next 1) H2 = some (.int .i64 a.a.n) := s2.ld (o := 1) rfl
    have c2 : ld (.ptr H.next 2) H2 = some (.str a.a.nm) := s2.ld (o := 2) rfl
    have c3 : ld (.ptr H.next 3) H2 = some (.str a.a.to') := s2.ld (o := 3) rfl
    have c4 : ld (.ptr H.next 4) H2 = some a.y := s2.ld (o := 4) rfl
    have c5 : ld (.ptr H.next 5) H2 = some a.k := s2.ld (o := 5) rfl
    have by1 := hok2.y.len1
    rw [bs_len] at by1
    have bk1 := hok2.k.len1
    rw [show (ints a.a.keep).length = a.a.keep.length from by simp [ints]] at bk1
    rw [ql_outriderlaw5_StorePlays]
    by_cases g1 : (2000 : Int) < (a.a.b.length : Nat)
    · have e1 := decide_eq_true g1
      exact ⟨H2, by simp only [bl_outriderlaw5_StorePlays, l1, d, a1, ldc, n1, s1, Nat.zero_add, c4, by1, e1, k_s, k_x, Int.reduceBEq, Int.reduceBNe, Int.reduceLT, Int.reduceLE, Int.reduceGT, Int.reduceGE, Int.reduceNeg]⟩
    have e1 := decide_eq_false g1
    by_cases g2 : (70 : Int) < (a.a.keep.length : Nat)
    · have e2 := decide_eq_true g2
      exact ⟨H2, by simp only [bl_outriderlaw5_StorePlays, l1, d, a1, ldc, n1, s1, Nat.zero_add, c4, by1, e1, c5, bk1, e2, k_s, k_x, Int.reduceBEq, Int.reduceBNe, Int.reduceLT, Int.reduceLE, Int.reduceGT, Int.reduceGE, Int.reduceNeg]⟩
    have e2 := decide_eq_false g2
    unfold bl_outriderlaw5_StorePlays
    rw [l1, B1_s, ilt_i, B1_s, d, CD_t]
    refine JN_hd (C := Ends) ?_
    refine JN_hd (C := Ends) ?_
    rw [a1, B1_s, ldc, B1_s, n1, BN_s, s1, B1_s]
    refine JN_hd (C := Ends) ?_
    refine JN_hd (C := Ends) ?_
    simp only [Nat.zero_add, fa_p, c4, by1, e1, c5, bk1, e2, B1_s, igt_i, GO_ff, pk_f, CD_f]
    refine JN_ex (C := Ends) (fun j => ∀ {H' : Hp} {m' : SM} {r' : RM} {L' : Lay} {R' : RLay}, PI H0 H' p q m' r' L' R' → Cs H' H.next (acell a) 53 0 → Ends (j xl (.ptr p 0) (.ptr q 0) (.int .i64 i) (.ptr H.next 0) (.bool true) H')) ?_ ?_
    · -- what both tell
      intro H3 m3 r3 L3 R3 h3 cX
      have t2 : ld (.ptr H.next 2) H3 = some (.str a.a.nm) := cX.ld (o := 2) rfl
      obtain ⟨x4, H4, u1, u2, u3, u4⟩ := read_c h3.st a.a.nm
      have h4 := h3.quiet u3
      have cX4 := cX.out u3 fun z => by cases z
      have t4 : ld (.ptr H.next 2) H4 = some (.str a.a.nm) := cX4.ld (o := 2) rfl
      have v1 := rread_c h4.rs a.a.nm hok.nm
      rw [h4.sim.look1] at v1
      have eR : rreadM r3 a.a.nm = readM m3 a.a.nm := by
        unfold rreadM readM
        rw [h4.sim.look1, h4.sim.file]
        cases StC.look m3 a.a.nm <;> rfl
      rw [eR] at v1
      have hb := b2s_ok u2 (readM_byte h3.st.ok a.a.nm)
      have b0 : (readM m3 a.a.nm == readM m3 a.a.nm) = true := by simp
      have b1 : (ofE m3 a.a.nm != ofE m3 a.a.nm) = false := by simp
      obtain ⟨x5, H5, w1, w2, w3, w4, w5⟩ := names_c h4.st
      have h5 := h4.quiet w3
      obtain ⟨x6, H6, z1, z2, z3, z4⟩ := rnames_c h5.rs
      have h6 := h5.quiet z3
      rw [← h5.sim.names] at z2
      have nl : (names m3).length ≤ 1000000 := by rw [h3.sim.names, List.length_map]; have := h3.rs.many; omega
      have tx := texts_c (w2.out z3 fun _ _ z => by cases z) z2.rw nl
      have cX6 := (cX4.out w3 fun z => by cases z).out z3 fun z => by cases z
      have t6 : ld (.ptr H.next 2) H6 = some (.str a.a.nm) := cX6.ld (o := 2) rfl
      have k1 := sure_c h6.st a.a.nm
      have eS : (match fileR a.a.nm r3.fs with | some f => (f.sure : Int) | none => 0) = ((sureM m3 a.a.nm : Nat) : Int) := by
        rw [h6.sim.file]; unfold sureM
        cases StC.look m3 a.a.nm <;> rfl
      have k2 := (rsure_c h6.rs a.a.nm).trans (congrArg (fun z => some (AV.int .i64 z, H6)) eS)
      have b2 : (((sureM m3 a.a.nm : Nat) : Int) != ((sureM m3 a.a.nm : Nat) : Int)) = false := by simp
      have k3 := free_c h6.st
      have k4 := rfree_c h6.rs
      rw [h6.sim.sum, h6.sim.room] at k4
      have b3 : ((m3.room : Int) - (sumB m3.fs : Nat) != (m3.room : Int) - (sumB m3.fs : Nat)) = false := by simp
      have k5 := off_c h6.st
      have k6 := h6.rs.ld_off
      rw [h6.sim.off] at k6
      have b4 : (!(m3.off == m3.off)) = false := by simp
      obtain ⟨G, hG⟩ := ih (i + 1) H6 m3 r3 L3 R3 (by omega) h6
      refine ⟨G, ?_⟩
      simp only [Nat.zero_add, t2, u1, t4, v1, b1, hb, b0, w1, z1, tx, t6, k1, k2, b2, k3, k4, b3, k5, k6, b4, SM_t (same_str _), SM_t (same_bool _), es, hG, k_s, k_x, Int.reduceBEq, Int.reduceBNe, Int.reduceLT, Int.reduceLE, Int.reduceGT, Int.reduceGE, Int.reduceNeg]
    · intro j hj
      have hXf : H.next ∉ foot p L := fun z => by have := h.st.lt _ z; omega
      have ny : ∀ j ∈ rid a.y, j < H0.next := fun j hj => (hx.2 a (List.mem_of_getElem? ha)).y.lt j hj
      have nk : ∀ j ∈ rid a.k, j < H0.next := fun j hj => (hx.2 a (List.mem_of_getElem? ha)).k.lt j hj
      have yp : ∀ j ∈ rid a.y, j ∉ foot p L := fun j hj z => by have := ny j hj; have := h2.fp j z; omega
      have kp : ∀ j ∈ rid a.k, j ∉ foot p L := fun j hj z => by have := nk j hj; have := h2.fp j z; omega
      have hXr : H.next ∉ rft q R := fun z => by have := h.rs.lt _ z; omega
      simp only [Nat.zero_add, fa_p, c0, B1_s]
      -- a call of the store, then the same of the reference
      have two : ∀ {H3 : Hp} {m3 : SM} {L3 : Lay} {e : Int} {o : Option (AV × Hp)}, St H3 p m3 L3 → Go' p H2 L H3 L3 → RR H3 q R r.keep e m3 o → ∃ H4, o = some (.int .i64 e, H4) ∧ Ends (j xl (.ptr p 0) (.ptr q 0) (.int .i64 i) (.ptr H.next 0) (.bool true) H4) := by
        intro H3 m3 L3 e o s g rr
        obtain ⟨rs3, o3, fin⟩ := h2.both s g
        obtain ⟨H4, R4, r4, q1, q2, q3, q4, q5⟩ := rr
        refine ⟨H4, q1, hj (fin q2 q3 q4 (by rw [q5]; exact h.rk)) ?_⟩
        refine (s2.out g.1 hXf).out q4.1 fun z => hXr z
      have rs2 := h2.rs
      by_cases z0 : a.a.op = 0
      · have y0 : (a.a.op == 0) = true := by rw [z0]; rfl
        obtain ⟨H3, L3, p1, p2, p3⟩ := app_c h2.st a.a.nm hok2.y hok2.b yp
        obtain ⟨rs3, o3, _⟩ := h2.both p2 p3
        have y3 := hok2.y.out p3.1 yp
        obtain ⟨H4, q1, G, hG⟩ := two p2 p3 (rapp_c (m := m) rs3 h2.sim h2.rk a.a.nm hok.nm y3 (fun z => by have := ny q z; have := h2.fr q (rft_cases.2 (.inl rfl)); omega) hok2.b (by omega) h2.st.ok.sum)
        have t2 : ld (.ptr H.next 2) H3 = some (.str a.a.nm) := (s2.out p3.1 hXf).ld (o := 2) rfl
        have t4 : ld (.ptr H.next 4) H3 = some a.y := (s2.out p3.1 hXf).ld (o := 4) rfl
        have ee : ((appM m a.a.nm a.a.b).1 == (appM m a.a.nm a.a.b).1) = true := by simp
        refine ⟨G, ?_⟩
        simp only [Nat.zero_add, y0, c2, c4, p1, t2, t4, q1, ee, SM_t (same_str _), SM_t (same_rw hok2.y), hG, k_s, k_x, Int.reduceBEq, Int.reduceBNe, Int.reduceLT, Int.reduceLE, Int.reduceGT, Int.reduceGE, Int.reduceNeg]
      have y0 : (a.a.op == 0) = false := by rw [beq_eq_false_iff_ne]; exact z0
      by_cases z1 : a.a.op = 1
      · have y1 : (a.a.op == 1) = true := by rw [z1]; rfl
        obtain ⟨H3, L3, p1, p2, p3⟩ := sync_c h2.st a.a.nm
        obtain ⟨rs3, o3, _⟩ := h2.both p2 p3
        obtain ⟨H4, q1, G, hG⟩ := two p2 p3 (rsync_c rs3 h2.sim h2.rk a.a.nm hok.nm)
        have t2 : ld (.ptr H.next 2) H3 = some (.str a.a.nm) := (s2.out p3.1 hXf).ld (o := 2) rfl
        have ee : ((syncM m a.a.nm).1 == (syncM m a.a.nm).1) = true := by simp
        refine ⟨G, ?_⟩
        simp only [Nat.zero_add, y0, y1, c2, p1, t2, q1, ee, SM_t (same_str _), hG, k_s, k_x, Int.reduceBEq, Int.reduceBNe, Int.reduceLT, Int.reduceLE, Int.reduceGT, Int.reduceGE, Int.reduceNeg]
      have y1 : (a.a.op == 1) = false := by rw [beq_eq_false_iff_ne]; exact z1
      by_cases z2 : a.a.op = 2
      · have y2 : (a.a.op == 2) = true := by rw [z2]; rfl
        obtain ⟨H3, L3, p1, p2, p3⟩ := cut_c h2.st a.a.nm a.a.n
        obtain ⟨rs3, o3, _⟩ := h2.both p2 p3
        obtain ⟨H4, q1, G, hG⟩ := two p2 p3 (rcut_c rs3 h2.sim h2.rk a.a.nm hok.nm a.a.n)
        have t2 : ld (.ptr H.next 2) H3 = some (.str a.a.nm) := (s2.out p3.1 hXf).ld (o := 2) rfl
        have t1 : ld (.ptr H.next 1) H3 = some (.int .i64 a.a.n) := (s2.out p3.1 hXf).ld (o := 1) rfl
        have ee : ((cutM m a.a.nm a.a.n).1 == (cutM m a.a.nm a.a.n).1) = true := by simp
        refine ⟨G, ?_⟩
        simp only [Nat.zero_add, y0, y1, y2, c1, c2, p1, t1, t2, q1, ee, SM_t (same_str _), SM_t (same_int _), hG, k_s, k_x, Int.reduceBEq, Int.reduceBNe, Int.reduceLT, Int.reduceLE, Int.reduceGT, Int.reduceGE, Int.reduceNeg]
      have y2 : (a.a.op == 2) = false := by rw [beq_eq_false_iff_ne]; exact z2
      by_cases z3 : a.a.op = 3
      · have y3 : (a.a.op == 3) = true := by rw [z3]; rfl
        obtain ⟨H3, L3, p1, p2, p3⟩ := drop_c h2.st a.a.nm
        obtain ⟨rs3, o3, _⟩ := h2.both p2 p3
        obtain ⟨H4, q1, G, hG⟩ := two p2 p3 (rdrop_c rs3 h2.sim h2.rk a.a.nm hok.nm)
        have t2 : ld (.ptr H.next 2) H3 = some (.str a.a.nm) := (s2.out p3.1 hXf).ld (o := 2) rfl
        have ee : ((dropM m a.a.nm).1 == (dropM m a.a.nm).1) = true := by simp
        refine ⟨G, ?_⟩
        simp only [Nat.zero_add, y0, y1, y2, y3, c2, p1, t2, q1, ee, SM_t (same_str _), hG, k_s, k_x, Int.reduceBEq, Int.reduceBNe, Int.reduceLT, Int.reduceLE, Int.reduceGT, Int.reduceGE, Int.reduceNeg]
      have y3 : (a.a.op == 3) = false := by rw [beq_eq_false_iff_ne]; exact z3
      by_cases z4 : a.a.op = 4
      · have y4 : (a.a.op == 4) = true := by rw [z4]; rfl
        obtain ⟨H3, L3, p1, p2, p3⟩ := swap_c h2.st a.a.nm a.a.to'
        obtain ⟨rs3, o3, _⟩ := h2.both p2 p3
        obtain ⟨H4, q1, G, hG⟩ := two p2 p3 (rswap_c rs3 h2.sim h2.rk a.a.nm a.a.to' hok.nm hok.to')
        have t2 : ld (.ptr H.next 2) H3 = some (.str a.a.nm) := (s2.out p3.1 hXf).ld (o := 2) rfl
        have t3 : ld (.ptr H.next 3) H3 = some (.str a.a.to') := (s2.out p3.1 hXf).ld (o := 3) rfl
        have ee : ((swapM m a.a.nm a.a.to').1 == (swapM m a.a.nm a.a.to').1) = true := by simp
        refine ⟨G, ?_⟩
        simp only [Nat.zero_add, y0, y1, y2, y3, y4, c2, c3, p1, t2, t3, q1, ee, SM_t (same_str _), hG, k_s, k_x, Int.reduceBEq, Int.reduceBNe, Int.reduceLT, Int.reduceLE, Int.reduceGT, Int.reduceGE, Int.reduceNeg]
      have y4 : (a.a.op == 4) = false := by rw [beq_eq_false_iff_ne]; exact z4
      by_cases z5 : a.a.op = 5
      · have y5 : (a.a.op == 5) = true := by rw [z5]; rfl
        obtain ⟨H3, L3, p1, p2, p3⟩ := crash_c h2.st hok2.k fun j hj z => by
          obtain ⟨y, hy, hj2⟩ := z
          exact kp j hj (St.mem_file hy hj2)
        obtain ⟨rs3, o3, fin⟩ := h2.both p2 p3
        have k3 := hok2.k.out p3.1 kp
        obtain ⟨H4, R4, q1, q2, q3⟩ := rcrash_c rs3 h2.sim.sokR (by omega) k3 fun j hj z => by have := nk j hj; have := h2.fr j (rft_cases.2 (.inr (.inl z))); omega
        have kk : (crR r a.a.keep).keep.length ≤ 16777216 := by
          have : (crR r a.a.keep).keep = r.keep := by unfold crR; split <;> rfl
          rw [this]; exact h.rk
        obtain ⟨G, hG⟩ := hj (fin q2 (h2.sim.crash a.a.keep) q3 kk) ((s2.out p3.1 hXf).out q3.1 hXr)
        have t5 : ld (.ptr H.next 5) H3 = some a.k := (s2.out p3.1 hXf).ld (o := 5) rfl
        refine ⟨G, ?_⟩
        simp only [Nat.zero_add, y0, y1, y2, y3, y4, y5, c5, p1, t5, q1, hG, k_s, k_x, Int.reduceBEq, Int.reduceBNe, Int.reduceLT, Int.reduceLE, Int.reduceGT, Int.reduceGE, Int.reduceNeg]
      have y5 : (a.a.op == 5) = false := by rw [beq_eq_false_iff_ne]; exact z5
      by_cases z6 : a.a.op = 6
      · have y6 : (a.a.op == 6) = true := by rw [z6]; rfl
        obtain ⟨H3, p1, p2, p3⟩ := on_c h2.st
        obtain ⟨rs3, o3, fin⟩ := h2.both p2 p3
        obtain ⟨H4, q1, q2, q3, q4⟩ := rs3.head.st (o := 2) (by simp) (v := .bool false) rfl
        have hd := rs3.setHd (off := false) (fuse := r.fuse) (xk := R.xk) (kl := r.keep) q2 q3 rs3.fuse (rs3.keep.out q3 fun j hj z => (rs3.pk j hj).1 (List.mem_singleton.1 z)) rs3.pk
        obtain ⟨G, hG⟩ := hj (fin hd (on_sim h2.sim) (Rgo.hd q3 fun j hj => .inl hj) h.rk) ((s2.out p3.1 hXf).out q3 fun z => hXr (by rw [List.mem_singleton.1 z]; exact rft_cases.2 (.inl rfl)))
        refine ⟨G, ?_⟩
        simp only [Nat.zero_add, y0, y1, y2, y3, y4, y5, y6, p1, q1, hG, k_s, k_x, Int.reduceBEq, Int.reduceBNe, Int.reduceLT, Int.reduceLE, Int.reduceGT, Int.reduceGE, Int.reduceNeg]
      have y6 : (a.a.op == 6) = false := by rw [beq_eq_false_iff_ne]; exact z6
      obtain ⟨H3, L3, p1, p2, p3⟩ := fuse_c h2.st (calls := a.a.n) hok.n.2 hok2.k kp (by omega)
      obtain ⟨rs3, o3, fin⟩ := h2.both p2 p3
      have k3 := hok2.k.out p3.1 kp
      obtain ⟨H4, R4, q1, q2, q3⟩ := rfuse_c rs3 (calls := a.a.n) hok.n k3 (by omega)
      have kk : (rfuseM r a.a.n a.a.keep).keep.length ≤ 16777216 := by
        unfold rfuseM
        split
        · exact h.rk
        · show a.a.keep.length ≤ _; omega
      obtain ⟨G, hG⟩ := hj (fin q2 (fuse_sim h2.sim _ _) q3 kk) ((s2.out p3.1 hXf).out q3.1 hXr)
      have t5 : ld (.ptr H.next 5) H3 = some a.k := (s2.out p3.1 hXf).ld (o := 5) rfl
      have t1 : ld (.ptr H.next 1) H3 = some (.int .i64 a.a.n) := (s2.out p3.1 hXf).ld (o := 1) rfl
      refine ⟨G, ?_⟩
      simp only [Nat.zero_add, y0, y1, y2, y3, y4, y5, y6, c1, c5, p1, t1, t5, q1, hG, k_s, k_x, Int.reduceBEq, Int.reduceBNe, Int.reduceLT, Int.reduceLE, Int.reduceGT, Int.reduceGE, Int.reduceNeg]
end
end Go.Proofs.YtnabkcdchklnpaaDoor.StP
