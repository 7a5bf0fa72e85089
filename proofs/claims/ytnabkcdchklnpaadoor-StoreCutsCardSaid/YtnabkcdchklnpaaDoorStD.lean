/- What the store's functions do, further contracts. Conditions: as each states them. -/
import Derived.Test.YtnabkcdchklnpaaDoorStC
namespace Go.Proofs.YtnabkcdchklnpaaDoor.StC
open Go Am Am.K StEnv StK
set_option linter.unusedVariables false
set_option linter.unusedSimpArgs false
set_option maxRecDepth 10000

/-! files come and go -/
theorem incr_cons (c : Nat) (x : ME) (es : List ME) (p : Nat) : incr c (x :: es) p = true ↔ p ≤ x.born ∧ x.born < c ∧ incr c es (x.born + 1) = true := by
  show F.bothB (Nat.ble p x.born) (F.bothB (Nat.blt x.born c) (incr c es (x.born + 1))) = true ↔ _
  rw [F.bothB_eq, F.bothB_eq, Bool.and_eq_true, Bool.and_eq_true, Nat.ble_eq, Nat.blt_eq]
theorem incr_mono (c : Nat) : ∀ (es : List ME) (p q : Nat), q ≤ p → incr c es p = true → incr c es q = true
  | [], p, q, h, _ => rfl
  | x :: es, p, q, h, hi => by
    rw [incr_cons] at hi ⊢
    exact ⟨by omega, hi.2⟩
theorem incr_del (c : Nat) (x : ME) (b : List ME) : ∀ (a : List ME) (p : Nat), incr c (a ++ x :: b) p = true → incr c (a ++ b) p = true
  | [], p, h => by
    rw [List.nil_append, incr_cons] at h
    exact incr_mono c b _ _ (by omega) h.2.2
  | y :: a, p, h => by
    rw [List.cons_append, incr_cons] at h ⊢
    exact ⟨h.1, h.2.1, incr_del c x b a _ h.2.2⟩
theorem incr_add (c : Nat) (x : ME) (hx : x.born = c) : ∀ (a : List ME) (p : Nat), p ≤ c → incr c a p = true → incr (c + 1) (a ++ [x]) p = true
  | [], p, hp, h => by
    rw [List.nil_append, incr_cons]
    exact ⟨by omega, by omega, rfl⟩
  | y :: a, p, hp, h => by
    rw [incr_cons] at h
    rw [List.cons_append, incr_cons]
    exact ⟨h.1, by omega, incr_add c x hx a _ (by omega) h.2.2⟩
theorem incr_set (c : Nat) (x y : ME) (hx : y.born = x.born) (b : List ME) : ∀ (a : List ME) (p : Nat), incr c (a ++ x :: b) p = true → incr c (a ++ y :: b) p = true
  | [], p, h => by
    rw [List.nil_append, incr_cons] at h ⊢
    rw [hx]; exact h
  | z :: a, p, h => by
    rw [List.cons_append, incr_cons] at h ⊢
    exact ⟨h.1, h.2.1, incr_set c x y hx b a _ h.2.2⟩
def delF (n : List Nat) (fs : List Fl) : List Fl := fs.filter fun f => !(f.nm == n)
theorem delF_split {a b : List FC} {x : FC} {n : List Nat} (hx : x.f.nm = n) (ha : ∀ y ∈ a, y.f.nm ≠ n) (hb : ∀ y ∈ b, y.f.nm ≠ n) : delF n ((a ++ x :: b).map (·.f)) = (a ++ b).map (·.f) := by
  unfold delF
  rw [List.map_append, List.map_cons, List.filter_append, List.filter_cons]
  have h1 : (!(x.f.nm == n)) = false := by rw [hx]; simp
  have hf : ∀ l : List FC, (∀ y ∈ l, y.f.nm ≠ n) → (l.map (·.f)).filter (fun f => !(f.nm == n)) = l.map (·.f) := fun l hl => List.filter_eq_self.2 fun f hf => by
    obtain ⟨y, hy, rfl⟩ := List.mem_map.1 hf
    simpa using hl y hy
  rw [h1, hf a ha, hf b hb, List.map_append]
  simp
section
variable {H : Hp} {p : Nat} {m : SM} {L : Lay}
theorem St.mid_nf (h : St H p m L) : p ≠ L.mid ∧ L.mid ∉ rid L.keep ∧ ∀ y ∈ L.cs, L.mid ∉ y.ids := by
  have hnd := h.nd
  unfold foot at hnd
  rw [List.nodup_cons, List.nodup_cons] at hnd
  exact ⟨fun q => hnd.1 (by rw [q]; exact .head _), fun q => hnd.2.1 (List.mem_append_left _ q), fun y hy q => hnd.2.1 (List.mem_append_right _ (List.mem_flatMap.2 ⟨y, hy, q⟩))⟩
theorem St.outMid {H' : Hp} (h : St H p m L) (ho : Out [L.mid] H H') : C0 H' p [.int .i64 m.room, .map L.mid, .bool m.off, .int .i64 m.fuse, L.keep] ∧ Rw H' 1 L.keep (ints m.keep) ∧
    ∀ x ∈ L.cs, C0 H' x.id [x.sl, .int .i64 x.f.sure] ∧ Ow H' 5 1 x.sl (bs x.f.b) := by
  obtain ⟨n1, n2, n3⟩ := h.mid_nf
  have e : ∀ j, j ≠ L.mid → j ∉ [L.mid] := fun j hj q => hj (List.mem_singleton.1 q)
  exact ⟨h.head.out ho (e _ n1), h.keep.out ho fun j hj => e _ fun q => n2 (q ▸ hj), fun x hx => ⟨(h.file x hx).1.out ho (e _ fun q => n3 x hx (q ▸ .head _)), (h.file x hx).2.out ho fun j hj => e _ fun q => n3 x hx (q ▸ .tail _ hj)⟩⟩
theorem St.delFile (h : St H p m L) {a b : List FC} {x : FC} (hL : L.cs = a ++ x :: b) (ha : ∀ y ∈ a, y.f.nm ≠ x.f.nm) (hb : ∀ y ∈ b, y.f.nm ≠ x.f.nm) :
    ∃ H', mdel .str (.map L.mid) (.str x.f.nm) H = some H' ∧ St H' p { m with fs := delF x.f.nm m.fs } { L with cs := a ++ b } ∧ Go' p H L H' { L with cs := a ++ b } ∧
      C0 H' x.id [x.sl, .int .i64 x.f.sure] ∧ Ow H' 5 1 x.sl (bs x.f.b) ∧ (∀ j ∈ x.ids, j ∉ foot p { L with cs := a ++ b }) ∧ x.ids.Nodup := by
  have hm := h.map
  rw [hL, List.map_append, List.map_cons] at hm
  obtain ⟨H', d1, d2, d3⟩ := mdel_some hm (k := x.f.nm) rfl (keys_ne ha)
  obtain ⟨c1, c2, c3⟩ := h.outMid d3
  have hfs : delF x.f.nm m.fs = (a ++ b).map (·.f) := by rw [h.fs, hL, delF_split rfl ha hb]
  have hsub : ∀ f ∈ delF x.f.nm m.fs, f ∈ m.fs := fun f hf => (List.mem_filter.1 hf).1
  have hxL : x ∈ L.cs := by rw [hL]; simp
  have mem : ∀ y ∈ a ++ b, y ∈ L.cs := fun y hy => by
    rw [hL]
    rcases List.mem_append.1 hy with q | q
    · exact List.mem_append_left _ q
    · exact List.mem_append_right _ (.tail _ q)
  have hnd := h.nd
  unfold foot at hnd
  rw [hL, List.flatMap_append, List.flatMap_cons, List.nodup_cons, List.nodup_cons, List.nodup_append, List.nodup_append, List.nodup_append] at hnd
  obtain ⟨n1, n2, n3, ⟨n4, ⟨n5, n6, n7⟩, n8⟩, n9⟩ := hnd
  have hsum : sumB (delF x.f.nm m.fs) ≤ sumB m.fs := by
    rw [hfs, h.fs, hL, List.map_append, List.map_append, List.map_cons, sumB_app, sumB_app, sumB_cons]; omega
  refine ⟨H', d1, ⟨c1, by rw [List.map_append]; exact d2, fun y hy => c3 y (mem y hy), c2, ?_, ?_, hfs, ⟨h.ok.room, Nat.le_trans hsum h.ok.sum, fun f hf => h.ok.sure f (hsub f hf), fun f hf => h.ok.byte f (hsub f hf), h.ok.fuse, ?_, fun f hf => h.ok.good f (hsub f hf), ?_⟩⟩,
    ⟨d3.mono fun j hj => by rw [List.mem_singleton.1 hj]; exact St.mem_mid, fun j hj => .inl ?_⟩, (c3 x hxL).1, (c3 x hxL).2, ?_, n5⟩
  · unfold foot
    rw [List.flatMap_append, List.nodup_cons, List.nodup_cons, List.nodup_append, List.nodup_append]
    refine ⟨fun q => ?_, fun q => ?_, n3, ⟨n4, n6, fun j hj k hk => n8 j hj k (List.mem_append_right _ hk)⟩, fun j hj k hk => ?_⟩
    · rcases List.mem_cons.1 q with q | q
      · exact n1 (by rw [q]; exact .head _)
      rcases List.mem_append.1 q with q | q
      · exact n1 (.tail _ (List.mem_append_left _ q))
      rcases List.mem_append.1 q with q | q
      · exact n1 (.tail _ (List.mem_append_right _ (List.mem_append_left _ q)))
      · exact n1 (.tail _ (List.mem_append_right _ (List.mem_append_right _ (List.mem_append_right _ q))))
    · rcases List.mem_append.1 q with q | q
      · exact n2 (List.mem_append_left _ q)
      rcases List.mem_append.1 q with q | q
      · exact n2 (List.mem_append_right _ (List.mem_append_left _ q))
      · exact n2 (List.mem_append_right _ (List.mem_append_right _ (List.mem_append_right _ q)))
    · rcases List.mem_append.1 hk with q | q
      · exact n9 j hj k (List.mem_append_left _ q)
      · exact n9 j hj k (List.mem_append_right _ (List.mem_append_right _ q))
  · have hb' := h.born
    rw [hL, List.map_append, List.map_cons] at hb'
    rw [List.map_append]
    exact incr_del _ _ _ _ _ hb'
  · exact List.Nodup.sublist ((List.filter_sublist).map _) h.ok.names
  · exact Nat.le_trans (List.length_filter_le _ _) h.ok.many
  · unfold foot at hj
    rcases List.mem_cons.1 hj with rfl | hj
    · exact St.mem_p
    rcases List.mem_cons.1 hj with rfl | hj
    · exact St.mem_mid
    rcases List.mem_append.1 hj with hj | hj
    · exact St.mem_keep hj
    · obtain ⟨y, hy, hj⟩ := List.mem_flatMap.1 hj
      exact St.mem_file (mem y hy) hj
  · intro j hj q
    have hj' : j ∈ FC.ids x := hj
    unfold foot at q
    rcases List.mem_cons.1 q with q | q
    · exact n1 (.tail _ (List.mem_append_right _ (List.mem_append_right _ (List.mem_append_left _ (q ▸ hj')))))
    rcases List.mem_cons.1 q with q | q
    · exact n2 (List.mem_append_right _ (List.mem_append_right _ (List.mem_append_left _ (q ▸ hj'))))
    rcases List.mem_append.1 q with q | q
    · exact n9 j q j (List.mem_append_right _ (List.mem_append_left _ hj')) rfl
    · rw [List.flatMap_append] at q
      rcases List.mem_append.1 q with q | q
      · exact n8 j q j (List.mem_append_left _ hj') rfl
      · exact n7 j hj' j q rfl
theorem St.addFile (h : St H p m L) {id : Nat} {sl : AV} {f : Fl} (hne : ∀ y ∈ L.cs, y.f.nm ≠ f.nm) (hc : C0 H id [sl, .int .i64 f.sure]) (hw : Ow H 5 1 sl (bs f.b)) (hd : ∀ j ∈ FC.ids ⟨id, sl, L.clk, f⟩, j ∉ foot p L) (hnd : (FC.ids ⟨id, sl, L.clk, f⟩).Nodup)
    (hsure : f.sure ≤ f.b.length) (hbyte : ∀ c ∈ f.b, c < 256) (hsum : sumB m.fs + f.b.length ≤ m.room) (hgood : okName f.nm = true) (hmany : m.fs.length < 64) :
    ∃ H', mup .str (.map L.mid) (.str f.nm) (.ptr id 0) H = some H' ∧ St H' p { m with fs := m.fs ++ [f] } { L with cs := L.cs ++ [⟨id, sl, L.clk, f⟩], clk := L.clk + 1 } ∧ Out [L.mid] H H' := by
  obtain ⟨H', d1, d2, d3⟩ := mup_new h.map (keys_ne hne) (.ptr id 0)
  obtain ⟨c1, c2, c3⟩ := h.outMid d3
  have hmid : ∀ j ∈ FC.ids ⟨id, sl, L.clk, f⟩, j ∉ [L.mid] := fun j hj q => hd j hj (by rw [List.mem_singleton.1 q]; exact St.mem_mid)
  refine ⟨H', d1, ⟨c1, by rw [List.map_append]; exact d2, fun y hy => ?_, c2, ?_, ?_, by rw [List.map_append, ← h.fs]; rfl, ⟨h.ok.room, by rw [sumB_app, sumB_cons]; exact hsum, fun g hg => ?_, fun g hg => ?_, h.ok.fuse, ?_, fun g hg => ?_, by rw [List.length_append]; simp; omega⟩⟩, d3⟩
  · rcases List.mem_append.1 hy with q | q
    · exact c3 y q
    · rw [List.mem_singleton.1 q]
      exact ⟨hc.out d3 (hmid _ (.head _)), hw.out d3 fun j hj => hmid j (.tail _ hj)⟩
  · have hn := h.nd
    unfold foot at hn ⊢
    rw [List.nodup_cons, List.nodup_cons, List.nodup_append] at hn
    rw [List.flatMap_append, List.nodup_cons, List.nodup_cons, List.nodup_append, List.nodup_append]
    have e : List.flatMap FC.ids [(⟨id, sl, L.clk, f⟩ : FC)] = FC.ids ⟨id, sl, L.clk, f⟩ := by simp
    rw [e]
    obtain ⟨n1, n2, n3, n4, n5⟩ := hn
    refine ⟨fun q => ?_, fun q => ?_, n3, ⟨n4, hnd, fun j hj k hk ek => hd k hk ?_⟩, fun j hj k hk => ?_⟩
    · rcases List.mem_cons.1 q with q | q
      · exact n1 (by rw [q]; exact .head _)
      rcases List.mem_append.1 q with q | q
      · exact n1 (.tail _ (List.mem_append_left _ q))
      rcases List.mem_append.1 q with q | q
      · exact n1 (.tail _ (List.mem_append_right _ q))
      · exact hd _ q St.mem_p
    · rcases List.mem_append.1 q with q | q
      · exact n2 (List.mem_append_left _ q)
      rcases List.mem_append.1 q with q | q
      · exact n2 (List.mem_append_right _ q)
      · exact hd _ q St.mem_mid
    · obtain ⟨y, hy, hj⟩ := List.mem_flatMap.1 hj
      rw [← ek]; exact St.mem_file hy hj
    · rcases List.mem_append.1 hk with q | q
      · exact n5 j hj k q
      · exact fun ek => hd k q (by rw [← ek]; exact St.mem_keep hj)
  · have hb' := h.born
    rw [List.map_append]
    exact incr_add L.clk (FC.me ⟨id, sl, L.clk, f⟩) rfl _ _ (Nat.zero_le _) hb'
  · rcases List.mem_append.1 hg with q | q
    · exact h.ok.sure g q
    · rw [List.mem_singleton.1 q]; exact hsure
  · rcases List.mem_append.1 hg with q | q
    · exact h.ok.byte g q
    · rw [List.mem_singleton.1 q]; exact hbyte
  · rw [List.map_append, List.nodup_append]
    refine ⟨h.ok.names, by simp, fun n hn k hk => ?_⟩
    obtain ⟨g, hg, rfl⟩ := List.mem_map.1 hn
    rw [h.fs] at hg
    obtain ⟨y, hy, rfl⟩ := List.mem_map.1 hg
    simp only [List.map_cons, List.map_nil, List.mem_singleton] at hk
    rw [hk]; exact hne y hy
  · rcases List.mem_append.1 hg with q | q
    · exact h.ok.good g q
    · rw [List.mem_singleton.1 q]; exact hgood
theorem St.replFile (h : St H p m L) {a b : List FC} {y : FC} (hL : L.cs = a ++ y :: b) {id : Nat} {sl : AV} {f : Fl} (hf : f.nm = y.f.nm) (ha : ∀ z ∈ a, z.f.nm ≠ y.f.nm) (hb : ∀ z ∈ b, z.f.nm ≠ y.f.nm) (hc : C0 H id [sl, .int .i64 f.sure]) (hw : Ow H 5 1 sl (bs f.b)) (hd : ∀ j ∈ FC.ids ⟨id, sl, y.born, f⟩, j ∉ foot p L) (hnd : (FC.ids ⟨id, sl, y.born, f⟩).Nodup)
    (hsure : f.sure ≤ f.b.length) (hbyte : ∀ c ∈ f.b, c < 256) (hsum : sumB (setF y.f.nm f m.fs) ≤ m.room) :
    ∃ H', mup .str (.map L.mid) (.str f.nm) (.ptr id 0) H = some H' ∧ St H' p { m with fs := setF y.f.nm f m.fs } { L with cs := a ++ ⟨id, sl, y.born, f⟩ :: b } ∧ Out [L.mid] H H' := by
  have hm := h.map
  rw [hL, List.map_append, List.map_cons] at hm
  obtain ⟨H', d1, d2, d3⟩ := mup_old hm (k := f.nm) (by rw [hf]; rfl) (by rw [hf]; exact keys_ne ha) (.ptr id 0)
  obtain ⟨c1, c2, c3⟩ := h.outMid d3
  have hmid : ∀ j ∈ FC.ids ⟨id, sl, y.born, f⟩, j ∉ [L.mid] := fun j hj q => hd j hj (by rw [List.mem_singleton.1 q]; exact St.mem_mid)
  have hyL : y ∈ L.cs := by rw [hL]; simp
  have mA : ∀ z ∈ a, z ∈ L.cs := fun z hz => by rw [hL]; exact List.mem_append_left _ hz
  have mB : ∀ z ∈ b, z ∈ L.cs := fun z hz => by rw [hL]; exact List.mem_append_right _ (.tail _ hz)
  have hfs : setF y.f.nm f m.fs = (a ++ ⟨id, sl, y.born, f⟩ :: b).map (·.f) := by
    rw [h.fs, hL, setF_split rfl ha hb, List.map_append, List.map_cons]
  have hset : ∀ g ∈ setF y.f.nm f m.fs, g = f ∨ g ∈ m.fs := fun g hg => by
    unfold setF at hg
    obtain ⟨g', hg', rfl⟩ := List.mem_map.1 hg
    split
    · exact .inl rfl
    · exact .inr hg'
  have hgy : okName f.nm = true := by rw [hf]; exact h.ok.good y.f (by rw [h.fs]; exact List.mem_map.2 ⟨y, hyL, rfl⟩)
  refine ⟨H', d1, ⟨c1, by rw [List.map_append, List.map_cons]; exact d2, fun z hz => ?_, c2, ?_, ?_, hfs, ⟨h.ok.room, hsum, fun g hg => ?_, fun g hg => ?_, h.ok.fuse, ?_, fun g hg => ?_, by simp only [setF, List.length_map]; exact h.ok.many⟩⟩, d3⟩
  · rcases List.mem_append.1 hz with q | q
    · exact c3 z (mA z q)
    · rcases List.mem_cons.1 q with rfl | q
      · exact ⟨hc.out d3 (hmid _ (.head _)), hw.out d3 fun j hj => hmid j (.tail _ hj)⟩
      · exact c3 z (mB z q)
  · have hn := h.nd
    unfold foot at hn ⊢
    rw [hL, List.flatMap_append, List.flatMap_cons, List.nodup_cons, List.nodup_cons, List.nodup_append, List.nodup_append, List.nodup_append] at hn
    rw [List.flatMap_append, List.flatMap_cons, List.nodup_cons, List.nodup_cons, List.nodup_append, List.nodup_append, List.nodup_append]
    obtain ⟨n1, n2, n3, ⟨n4, ⟨n5, n6, n7⟩, n8⟩, n9⟩ := hn
    have fA : ∀ j ∈ a.flatMap FC.ids, j ∈ foot p L := fun j hj => by
      obtain ⟨z, hz, hj⟩ := List.mem_flatMap.1 hj
      exact St.mem_file (mA z hz) hj
    have fB : ∀ j ∈ b.flatMap FC.ids, j ∈ foot p L := fun j hj => by
      obtain ⟨z, hz, hj⟩ := List.mem_flatMap.1 hj
      exact St.mem_file (mB z hz) hj
    refine ⟨fun q => ?_, fun q => ?_, n3, ⟨n4, ⟨hnd, n6, fun j hj k hk ek => hd j hj (ek ▸ fB k hk)⟩, fun j hj k hk ek => ?_⟩, fun j hj k hk ek => ?_⟩
    · rcases List.mem_cons.1 q with q | q
      · exact n1 (by rw [q]; exact .head _)
      rcases List.mem_append.1 q with q | q
      · exact n1 (.tail _ (List.mem_append_left _ q))
      rcases List.mem_append.1 q with q | q
      · exact n1 (.tail _ (List.mem_append_right _ (List.mem_append_left _ q)))
      rcases List.mem_append.1 q with q | q
      · exact hd _ q St.mem_p
      · exact n1 (.tail _ (List.mem_append_right _ (List.mem_append_right _ (List.mem_append_right _ q))))
    · rcases List.mem_append.1 q with q | q
      · exact n2 (List.mem_append_left _ q)
      rcases List.mem_append.1 q with q | q
      · exact n2 (List.mem_append_right _ (List.mem_append_left _ q))
      rcases List.mem_append.1 q with q | q
      · exact hd _ q St.mem_mid
      · exact n2 (List.mem_append_right _ (List.mem_append_right _ (List.mem_append_right _ q)))
    · rcases List.mem_append.1 hk with q | q
      · exact hd k q (ek ▸ fA j hj)
      · exact n8 j hj k (List.mem_append_right _ q) ek
    · rcases List.mem_append.1 hk with q | q
      · exact n9 j hj k (List.mem_append_left _ q) ek
      rcases List.mem_append.1 q with q | q
      · exact hd k q (ek ▸ St.mem_keep hj)
      · exact n9 j hj k (List.mem_append_right _ (List.mem_append_right _ q)) ek
  · have hb' := h.born
    rw [hL, List.map_append, List.map_cons] at hb'
    rw [List.map_append, List.map_cons]
    exact incr_set _ _ _ (by rfl) _ _ _ hb'
  · rcases hset g hg with rfl | q
    · exact hsure
    · exact h.ok.sure g q
  · rcases hset g hg with rfl | q
    · exact hbyte
    · exact h.ok.byte g q
  · have : (setF y.f.nm f m.fs).map (·.nm) = m.fs.map (·.nm) := by
      unfold setF
      rw [List.map_map]
      refine List.map_congr_left fun g hg => ?_
      simp only [Function.comp]
      split
      · rename_i q; rw [q, hf]
      · rfl
    rw [this]; exact h.ok.names
  · rcases hset g hg with rfl | q
    · exact hgy
    · exact h.ok.good g q
end
section
variable {H : Hp} {p : Nat} {m : SM} {L : Lay}
/-- a file cut -/
noncomputable def cutM (m : SM) (at' : List Nat) (n : Int) : Int × SM := if ofE m at' ≠ 0 then (ofE m at', m) else match look m at' with
  | none => (0, m)
  | some f => if n < 0 ∨ (f.b.length : Int) < n then (1, m) else if burnB m = false then (11, burnM m) else (0, { burnM m with fs := setF at' ⟨f.nm, f.b.take n.toNat, min f.sure n.toNat⟩ m.fs })
theorem cut_c (h : St H p m L) (at' : List Nat) (n : Int) : ∃ H' L', cK (.func (.func 18) [] []) [.ptr p 0, .str at', .int .i64 n] H = some (.int .i64 (cutM m at' n).1, H') ∧ St H' p (cutM m at' n).2 L' ∧ Go' p H L H' L' := by
  have h0 := of_c h at'
  by_cases he : ofE m at' = 0
  · obtain ⟨q1, q2, a, x, b, r1, r2, r3, r4, r5, r6, hx, hf⟩ := h.ofP he
    obtain ⟨hf1, hf2⟩ := h.file x hx
    have hl := hf1.ld (o := 0) rfl
    have hlen := hf2.rw.len1
    rw [bs_len] at hlen
    have hbig : x.f.b.length ≤ 16777216 := by
      have := len_le hf; have := h.ok.sum; have := h.ok.room; omega
    by_cases hn : n < 0
    · have : cutM m at' n = (1, m) := by unfold cutM; rw [if_neg (by simp [he]), r6]; simp only; rw [if_pos (.inl hn)]
      rw [this]
      refine ⟨H, L, c_store_Store_Cut ?_, h, Go'.refl _ _ _⟩
      unfold s_store_Store_Cut
      have d1 : decide (n < 0) = true := decide_eq_true hn
      simp only [h0, he, q1, q2, d1, Bool.false_eq_true, Bool.true_eq_false, or_self, if_false, JN_0, JN_1, JN_2, JN_3, JN_4, JN_5, JN_6, JN_7, JN_8, JN_9, JN_10, JN_11, JN_12, JN_13, JN_14, JN_15, JN_16, JN_17, JN_18, JN_19, JN_20, JN_21, JN_22, JN_23, JN_24, B1_s, B2_s, BN_s, CD_t, CD_f, GO_tt, GO_ft, GO_tf, GO_ff, GO_ut, GO_uf, GD2_tt, GD2_ft, GD2_tf, GD2_ff, pk_t, pk_f, nilA_p, nilA_i, fa_p, fd_a, ex_t, iadd_i, isub_i, imul_i, ieq_i, ine_i, ilt_i, ile_i, igt_i, ige_i, seq_s, sne_s, slt_s, lens_s, lenx_0, lenx_s, not_b, cv_i, pe_00, pe_0p, pe_p0, eqB_e, eqB_n, List.getElem?_cons_zero, List.getElem?_cons_succ, Nat.zero_add, Bool.not_true, Bool.not_false, decide_true, decide_false, Int.reduceBEq, Int.reduceBNe, Int.reduceLT, Int.reduceLE, Int.reduceGT, Int.reduceGE, Int.reduceNeg, BEq.rfl, bne_self_eq_false, ge_iff_le, gt_iff_lt]
    · have d1 : decide (n < 0) = false := decide_eq_false hn
      by_cases hn2 : (x.f.b.length : Int) < n
      · have : cutM m at' n = (1, m) := by unfold cutM; rw [if_neg (by simp [he]), r6]; simp only; rw [if_pos (.inr hn2)]
        rw [this]
        refine ⟨H, L, c_store_Store_Cut ?_, h, Go'.refl _ _ _⟩
        unfold s_store_Store_Cut
        have d2 : decide ((x.f.b.length : Int) < n) = true := decide_eq_true hn2
        simp only [h0, he, q1, q2, d1, d2, r5, hl, hlen, Bool.false_eq_true, Bool.true_eq_false, or_self, if_false, JN_0, JN_1, JN_2, JN_3, JN_4, JN_5, JN_6, JN_7, JN_8, JN_9, JN_10, JN_11, JN_12, JN_13, JN_14, JN_15, JN_16, JN_17, JN_18, JN_19, JN_20, JN_21, JN_22, JN_23, JN_24, B1_s, B2_s, BN_s, CD_t, CD_f, GO_tt, GO_ft, GO_tf, GO_ff, GO_ut, GO_uf, GD2_tt, GD2_ft, GD2_tf, GD2_ff, pk_t, pk_f, nilA_p, nilA_i, fa_p, fd_a, ex_t, iadd_i, isub_i, imul_i, ieq_i, ine_i, ilt_i, ile_i, igt_i, ige_i, seq_s, sne_s, slt_s, lens_s, lenx_0, lenx_s, not_b, cv_i, pe_00, pe_0p, pe_p0, eqB_e, eqB_n, List.getElem?_cons_zero, List.getElem?_cons_succ, Nat.zero_add, Bool.not_true, Bool.not_false, decide_true, decide_false, Int.reduceBEq, Int.reduceBNe, Int.reduceLT, Int.reduceLE, Int.reduceGT, Int.reduceGE, Int.reduceNeg, BEq.rfl, bne_self_eq_false, ge_iff_le, gt_iff_lt]
      · have d2 : decide ((x.f.b.length : Int) < n) = false := decide_eq_false hn2
        obtain ⟨H1, L1, b1, b2, b3, b4⟩ := burn_c h
        have hcm : cutM m at' n = if burnB m = false then (11, burnM m) else (0, { burnM m with fs := setF at' ⟨x.f.nm, x.f.b.take n.toNat, min x.f.sure n.toNat⟩ m.fs }) := by
          unfold cutM; rw [if_neg (by simp [he]), r6]; simp only; rw [if_neg (by omega)]
        cases hB : burnB m with
        | false =>
          rw [hcm, if_pos hB]
          refine ⟨H1, L1, c_store_Store_Cut ?_, b2, b3⟩
          unfold s_store_Store_Cut
          simp only [h0, he, q1, q2, d1, d2, r5, hl, hlen, b1, hB, Bool.false_eq_true, Bool.true_eq_false, or_self, if_false, JN_0, JN_1, JN_2, JN_3, JN_4, JN_5, JN_6, JN_7, JN_8, JN_9, JN_10, JN_11, JN_12, JN_13, JN_14, JN_15, JN_16, JN_17, JN_18, JN_19, JN_20, JN_21, JN_22, JN_23, JN_24, B1_s, B2_s, BN_s, CD_t, CD_f, GO_tt, GO_ft, GO_tf, GO_ff, GO_ut, GO_uf, GD2_tt, GD2_ft, GD2_tf, GD2_ff, pk_t, pk_f, nilA_p, nilA_i, fa_p, fd_a, ex_t, iadd_i, isub_i, imul_i, ieq_i, ine_i, ilt_i, ile_i, igt_i, ige_i, seq_s, sne_s, slt_s, lens_s, lenx_0, lenx_s, not_b, cv_i, pe_00, pe_0p, pe_p0, eqB_e, eqB_n, List.getElem?_cons_zero, List.getElem?_cons_succ, Nat.zero_add, Bool.not_true, Bool.not_false, decide_true, decide_false, Int.reduceBEq, Int.reduceBNe, Int.reduceLT, Int.reduceLE, Int.reduceGT, Int.reduceGE, Int.reduceNeg, BEq.rfl, bne_self_eq_false, ge_iff_le, gt_iff_lt]
        | true =>
          rw [hcm, if_neg (by simp [hB])]
          obtain ⟨e1, e2, e3, e4, e5, e6⟩ := b4 hB
          rw [e1] at b2 b3
          obtain ⟨N, rfl⟩ := Int.eq_ofNat_of_zero_le (show 0 ≤ n by omega)
          obtain ⟨hg1, hg2⟩ := b2.file x hx
          have hl1 := hg1.ld (o := 0) rfl
          obtain ⟨sl, H2, H3, L3, c1, c2, c3, c3', c4, c5, c6, c7, c8, c9, c10, c11⟩ := b2.cut r1 (by rw [r2]; exact r3) (by rw [r2]; exact r4) (n := N) (s := min x.f.sure N) (by omega) (by omega)
          have hmin : (if (N : Int) < (x.f.sure : Int) then (N : Int) else (x.f.sure : Int)) = ((min x.f.sure N : Nat) : Int) := by split <;> omega
          refine ⟨H3, L3, c_store_Store_Cut ?_, ?_, b3.trans c7⟩
          · unfold s_store_Store_Cut
            simp only [h0, he, q1, q2, d1, d2, r5, hl, hlen, b1, hB, hl1, c1, c2, c3, c3', c4, min_i, hmin, c5, Bool.false_eq_true, Bool.true_eq_false, or_self, if_false, JN_0, JN_1, JN_2, JN_3, JN_4, JN_5, JN_6, JN_7, JN_8, JN_9, JN_10, JN_11, JN_12, JN_13, JN_14, JN_15, JN_16, JN_17, JN_18, JN_19, JN_20, JN_21, JN_22, JN_23, JN_24, B1_s, B2_s, BN_s, CD_t, CD_f, GO_tt, GO_ft, GO_tf, GO_ff, GO_ut, GO_uf, GD2_tt, GD2_ft, GD2_tf, GD2_ff, pk_t, pk_f, nilA_p, nilA_i, fa_p, fd_a, ex_t, iadd_i, isub_i, imul_i, ieq_i, ine_i, ilt_i, ile_i, igt_i, ige_i, seq_s, sne_s, slt_s, lens_s, lenx_0, lenx_s, not_b, cv_i, pe_00, pe_0p, pe_p0, eqB_e, eqB_n, List.getElem?_cons_zero, List.getElem?_cons_succ, Nat.zero_add, Bool.not_true, Bool.not_false, decide_true, decide_false, Int.reduceBEq, Int.reduceBNe, Int.reduceLT, Int.reduceLE, Int.reduceGT, Int.reduceGE, Int.reduceNeg, BEq.rfl, bne_self_eq_false, ge_iff_le, gt_iff_lt]
          · rw [e3, r2] at c6
            rw [Int.toNat_natCast, r2]; exact c6
  · have : cutM m at' n = (ofE m at', m) := by unfold cutM; rw [if_pos he]
    rw [this]
    refine ⟨H, L, c_store_Store_Cut ?_, h, Go'.refl _ _ _⟩
    unfold s_store_Store_Cut
    simp only [h0, ne_of_ofE he, JN_0, JN_1, JN_2, JN_3, JN_4, JN_5, JN_6, JN_7, JN_8, JN_9, JN_10, JN_11, JN_12, JN_13, JN_14, JN_15, JN_16, JN_17, JN_18, JN_19, JN_20, JN_21, JN_22, JN_23, JN_24, B1_s, B2_s, BN_s, CD_t, CD_f, GO_tt, GO_ft, GO_tf, GO_ff, GO_ut, GO_uf, GD2_tt, GD2_ft, GD2_tf, GD2_ff, pk_t, pk_f, nilA_p, nilA_i, fa_p, fd_a, ex_t, iadd_i, isub_i, imul_i, ieq_i, ine_i, ilt_i, ile_i, igt_i, ige_i, seq_s, sne_s, slt_s, lens_s, lenx_0, lenx_s, not_b, cv_i, pe_00, pe_0p, pe_p0, eqB_e, eqB_n, List.getElem?_cons_zero, List.getElem?_cons_succ, Nat.zero_add, Bool.not_true, Bool.not_false, decide_true, decide_false, Int.reduceBEq, Int.reduceBNe, Int.reduceLT, Int.reduceLE, Int.reduceGT, Int.reduceGE, Int.reduceNeg, BEq.rfl, bne_self_eq_false, ge_iff_le, gt_iff_lt]
/-- a file dropped -/
noncomputable def dropM (m : SM) (at' : List Nat) : Int × SM := if ofE m at' ≠ 0 then (ofE m at', m) else if burnB m = false then (11, burnM m) else (0, { burnM m with fs := delF at' m.fs })
theorem drop_c (h : St H p m L) (at' : List Nat) : ∃ H' L', cK (.func (.func 21) [] []) [.ptr p 0, .str at'] H = some (.int .i64 (dropM m at').1, H') ∧ St H' p (dropM m at').2 L' ∧ Go' p H L H' L' := by
  have h0 := of_c h at'
  by_cases he : ofE m at' = 0
  · obtain ⟨q1, q2, a, x, b, r1, r2, r3, r4, r5, r6, hx, hf⟩ := h.ofP he
    obtain ⟨H1, L1, b1, b2, b3, b4⟩ := burn_c h
    cases hB : burnB m with
    | false =>
      have : dropM m at' = (11, burnM m) := by unfold dropM; rw [if_neg (by simp [he]), if_pos hB]
      rw [this]
      refine ⟨H1, L1, c_store_Store_Drop ?_, b2, b3⟩
      unfold s_store_Store_Drop
      simp only [h0, he, q1, q2, b1, hB, Bool.false_eq_true, Bool.true_eq_false, or_self, if_false, JN_0, JN_1, JN_2, JN_3, JN_4, JN_5, JN_6, JN_7, JN_8, JN_9, JN_10, JN_11, JN_12, JN_13, JN_14, JN_15, JN_16, JN_17, JN_18, JN_19, JN_20, JN_21, JN_22, JN_23, JN_24, B1_s, B2_s, BN_s, CD_t, CD_f, GO_tt, GO_ft, GO_tf, GO_ff, GO_ut, GO_uf, GD2_tt, GD2_ft, GD2_tf, GD2_ff, pk_t, pk_f, nilA_p, nilA_i, fa_p, fd_a, ex_t, iadd_i, isub_i, imul_i, ieq_i, ine_i, ilt_i, ile_i, igt_i, ige_i, seq_s, sne_s, slt_s, lens_s, lenx_0, lenx_s, not_b, cv_i, pe_00, pe_0p, pe_p0, eqB_e, eqB_n, List.getElem?_cons_zero, List.getElem?_cons_succ, Nat.zero_add, Bool.not_true, Bool.not_false, decide_true, decide_false, Int.reduceBEq, Int.reduceBNe, Int.reduceLT, Int.reduceLE, Int.reduceGT, Int.reduceGE, Int.reduceNeg, BEq.rfl, bne_self_eq_false, ge_iff_le, gt_iff_lt]
    | true =>
      obtain ⟨e1, e2, e3, e4, e5, e6⟩ := b4 hB
      rw [e1] at b2 b3
      have hm1 := b2.ld_map
      obtain ⟨H2, d1, d2, d3, d4, d5, d6, d7⟩ := b2.delFile r1 (by rw [r2]; exact r3) (by rw [r2]; exact r4)
      rw [r2] at d1 d2
      rw [e3] at d2
      have : dropM m at' = (0, { burnM m with fs := delF at' m.fs }) := by unfold dropM; rw [if_neg (by simp [he]), if_neg (by simp [hB])]
      rw [this]
      refine ⟨H2, _, c_store_Store_Drop ?_, d2, b3.trans d3⟩
      unfold s_store_Store_Drop
      simp only [h0, he, q1, q2, b1, hB, hm1, d1, Bool.false_eq_true, Bool.true_eq_false, or_self, if_false, JN_0, JN_1, JN_2, JN_3, JN_4, JN_5, JN_6, JN_7, JN_8, JN_9, JN_10, JN_11, JN_12, JN_13, JN_14, JN_15, JN_16, JN_17, JN_18, JN_19, JN_20, JN_21, JN_22, JN_23, JN_24, B1_s, B2_s, BN_s, CD_t, CD_f, GO_tt, GO_ft, GO_tf, GO_ff, GO_ut, GO_uf, GD2_tt, GD2_ft, GD2_tf, GD2_ff, pk_t, pk_f, nilA_p, nilA_i, fa_p, fd_a, ex_t, iadd_i, isub_i, imul_i, ieq_i, ine_i, ilt_i, ile_i, igt_i, ige_i, seq_s, sne_s, slt_s, lens_s, lenx_0, lenx_s, not_b, cv_i, pe_00, pe_0p, pe_p0, eqB_e, eqB_n, List.getElem?_cons_zero, List.getElem?_cons_succ, Nat.zero_add, Bool.not_true, Bool.not_false, decide_true, decide_false, Int.reduceBEq, Int.reduceBNe, Int.reduceLT, Int.reduceLE, Int.reduceGT, Int.reduceGE, Int.reduceNeg, BEq.rfl, bne_self_eq_false, ge_iff_le, gt_iff_lt]
  · have : dropM m at' = (ofE m at', m) := by unfold dropM; rw [if_pos he]
    rw [this]
    refine ⟨H, L, c_store_Store_Drop ?_, h, Go'.refl _ _ _⟩
    unfold s_store_Store_Drop
    simp only [h0, ne_of_ofE he, JN_0, JN_1, JN_2, JN_3, JN_4, JN_5, JN_6, JN_7, JN_8, JN_9, JN_10, JN_11, JN_12, JN_13, JN_14, JN_15, JN_16, JN_17, JN_18, JN_19, JN_20, JN_21, JN_22, JN_23, JN_24, B1_s, B2_s, BN_s, CD_t, CD_f, GO_tt, GO_ft, GO_tf, GO_ff, GO_ut, GO_uf, GD2_tt, GD2_ft, GD2_tf, GD2_ff, pk_t, pk_f, nilA_p, nilA_i, fa_p, fd_a, ex_t, iadd_i, isub_i, imul_i, ieq_i, ine_i, ilt_i, ile_i, igt_i, ige_i, seq_s, sne_s, slt_s, lens_s, lenx_0, lenx_s, not_b, cv_i, pe_00, pe_0p, pe_p0, eqB_e, eqB_n, List.getElem?_cons_zero, List.getElem?_cons_succ, Nat.zero_add, Bool.not_true, Bool.not_false, decide_true, decide_false, Int.reduceBEq, Int.reduceBNe, Int.reduceLT, Int.reduceLE, Int.reduceGT, Int.reduceGE, Int.reduceNeg, BEq.rfl, bne_self_eq_false, ge_iff_le, gt_iff_lt]
/-- bytes put behind a file -/
noncomputable def appM (m : SM) (at' : List Nat) (b : List Nat) : Int × SM := if ofE m at' ≠ 0 ∧ ofE m at' ≠ 4 then (ofE m at', m) else
  if (m.room : Int) - sumB m.fs < b.length ∨ ((look m at').isNone = true ∧ 64 ≤ m.fs.length) then (6, m) else if burnB m = false then (11, burnM m) else
  (0, { burnM m with fs := match look m at' with | some f => setF at' ⟨f.nm, f.b ++ b, f.sure⟩ m.fs | none => m.fs ++ [⟨at', b, 0⟩] })
theorem app_c (h : St H p m L) (at' : List Nat) {y : AV} {b : List Nat} (hy : Rw H 1 y (bs b)) (hb : ∀ c ∈ b, c < 256) (hyd : ∀ j ∈ rid y, j ∉ foot p L) :
    ∃ H' L', cK (.func (.func 11) [] []) [.ptr p 0, .str at', y] H = some (.int .i64 (appM m at' b).1, H') ∧ St H' p (appM m at' b).2 L' ∧ Go' p H L H' L' := by
  have h0 := of_c h at'
  have hfree := free_c h
  have hylen := hy.len1
  rw [bs_len] at hylen
  have hroom := h.ok.room
  have hsum := h.ok.sum
  have hlenm := lenm_m h.map
  have hmap := h.ld_map
  have hcs : (L.cs.map FC.me).length = m.fs.length := by rw [h.fs, List.length_map, List.length_map]
  rw [hcs] at hlenm
  by_cases he2 : ofE m at' ≠ 0 ∧ ofE m at' ≠ 4
  · have : appM m at' b = (ofE m at', m) := by unfold appM; rw [if_pos he2]
    rw [this]
    refine ⟨H, L, c_store_Store_Append ?_, h, Go'.refl _ _ _⟩
    unfold s_store_Store_Append
    have d1 : (ofE m at' != 0) = true := by simpa using he2.1
    have d2 : (ofE m at' != 4) = true := by simpa using he2.2
    simp only [h0, d1, d2, JN_0, JN_1, JN_2, JN_3, JN_4, JN_5, JN_6, JN_7, JN_8, JN_9, JN_10, JN_11, JN_12, JN_13, JN_14, JN_15, JN_16, JN_17, JN_18, JN_19, JN_20, JN_21, JN_22, JN_23, JN_24, B1_s, B2_s, BN_s, CD_t, CD_f, GO_tt, GO_ft, GO_tf, GO_ff, GO_ut, GO_uf, GD2_tt, GD2_ft, GD2_tf, GD2_ff, pk_t, pk_f, nilA_p, nilA_i, fa_p, fd_a, ex_t, iadd_i, isub_i, imul_i, ieq_i, ine_i, ilt_i, ile_i, igt_i, ige_i, seq_s, sne_s, slt_s, lens_s, lenx_0, lenx_s, not_b, cv_i, pe_00, pe_0p, pe_p0, eqB_e, eqB_n, List.getElem?_cons_zero, List.getElem?_cons_succ, Nat.zero_add, Bool.not_true, Bool.not_false, decide_true, decide_false, Int.reduceBEq, Int.reduceBNe, Int.reduceLT, Int.reduceLE, Int.reduceGT, Int.reduceGE, Int.reduceNeg, BEq.rfl, bne_self_eq_false, ge_iff_le, gt_iff_lt]
  · -- the file is there, or is none
    have hcase : (ofE m at' = 0 ∧ m.off = false ∧ okName at' = true ∧ ∃ a x c, L.cs = a ++ x :: c ∧ x.f.nm = at' ∧ (∀ y ∈ a, y.f.nm ≠ at') ∧ (∀ y ∈ c, y.f.nm ≠ at') ∧ fp L at' = .ptr x.id 0 ∧ look m at' = some x.f ∧ x ∈ L.cs ∧ x.f ∈ m.fs) ∨
        (ofE m at' = 4 ∧ m.off = false ∧ okName at' = true ∧ look m at' = none ∧ fp L at' = .ptr0 ∧ ∀ y ∈ L.cs, y.f.nm ≠ at') := by
      rcases ofE_cases m at' with ⟨q, _⟩ | ⟨q, _⟩ | ⟨q, q1, q2, q3⟩ | ⟨q, _⟩
      · rw [q] at he2; simp at he2
      · rw [q] at he2; simp at he2
      · rcases h.lookC at' with ⟨r1, r2, r3⟩ | ⟨a, x, c, r1, r2, r3, r4, r5, r6⟩
        · exact .inr ⟨q, q1, q2, q3, r1, r3⟩
        · rw [q3] at r6; cases r6
      · obtain ⟨q1, q2, r⟩ := h.ofP q
        exact .inl ⟨q, q1, q2, r⟩
    have hE : (ofE m at' != 0) = true → (ofE m at' != 4) = false := by
      intro q
      rcases hcase with ⟨e, _⟩ | ⟨e, _⟩
      · rw [e] at q; cases q
      · rw [e]; rfl
    have hfirst : ∀ k : AV → R, B1 (ine (.int .i64 (ofE m at')) (.int .i64 0)) (fun v13 => GO v13 true (fun k14 => k14 (.int .i64 (ofE m at')) H) (fun v15 h16 => GO v13 true (fun k17 => B1 (ine v15 (.int .i64 4)) fun v18 => k17 v18 h16) (fun v19 h20 => B1 (pk v13 v19 (.bool false)) fun v21 => k v21) h16) H) = k (.bool false) := by
      intro k
      cases d : (ofE m at' != 0) with
      | false => simp only [d, JN_0, JN_1, JN_2, JN_3, JN_4, JN_5, JN_6, JN_7, JN_8, JN_9, JN_10, JN_11, JN_12, JN_13, JN_14, JN_15, JN_16, JN_17, JN_18, JN_19, JN_20, JN_21, JN_22, JN_23, JN_24, B1_s, B2_s, BN_s, CD_t, CD_f, GO_tt, GO_ft, GO_tf, GO_ff, GO_ut, GO_uf, GD2_tt, GD2_ft, GD2_tf, GD2_ff, pk_t, pk_f, nilA_p, nilA_i, fa_p, fd_a, ex_t, iadd_i, isub_i, imul_i, ieq_i, ine_i, ilt_i, ile_i, igt_i, ige_i, seq_s, sne_s, slt_s, lens_s, lenx_0, lenx_s, not_b, cv_i, pe_00, pe_0p, pe_p0, eqB_e, eqB_n, List.getElem?_cons_zero, List.getElem?_cons_succ, Nat.zero_add, Bool.not_true, Bool.not_false, decide_true, decide_false, Int.reduceBEq, Int.reduceBNe, Int.reduceLT, Int.reduceLE, Int.reduceGT, Int.reduceGE, Int.reduceNeg, BEq.rfl, bne_self_eq_false, ge_iff_le, gt_iff_lt]
      | true => simp only [d, hE d, JN_0, JN_1, JN_2, JN_3, JN_4, JN_5, JN_6, JN_7, JN_8, JN_9, JN_10, JN_11, JN_12, JN_13, JN_14, JN_15, JN_16, JN_17, JN_18, JN_19, JN_20, JN_21, JN_22, JN_23, JN_24, B1_s, B2_s, BN_s, CD_t, CD_f, GO_tt, GO_ft, GO_tf, GO_ff, GO_ut, GO_uf, GD2_tt, GD2_ft, GD2_tf, GD2_ff, pk_t, pk_f, nilA_p, nilA_i, fa_p, fd_a, ex_t, iadd_i, isub_i, imul_i, ieq_i, ine_i, ilt_i, ile_i, igt_i, ige_i, seq_s, sne_s, slt_s, lens_s, lenx_0, lenx_s, not_b, cv_i, pe_00, pe_0p, pe_p0, eqB_e, eqB_n, List.getElem?_cons_zero, List.getElem?_cons_succ, Nat.zero_add, Bool.not_true, Bool.not_false, decide_true, decide_false, Int.reduceBEq, Int.reduceBNe, Int.reduceLT, Int.reduceLE, Int.reduceGT, Int.reduceGE, Int.reduceNeg, BEq.rfl, bne_self_eq_false, ge_iff_le, gt_iff_lt]
    have hp0 : (if m.off = true ∨ okName at' = false then AV.ptr0 else fp L at') = fp L at' := by
      rcases hcase with ⟨_, q1, q2, _⟩ | ⟨_, q1, q2, _⟩ <;> simp [q1, q2]
    rw [hp0] at h0
    by_cases hbig : (m.room : Int) - sumB m.fs < b.length
    · have : appM m at' b = (6, m) := by unfold appM; rw [if_neg he2, if_pos (.inl hbig)]
      rw [this]
      refine ⟨H, L, c_store_Store_Append ?_, h, Go'.refl _ _ _⟩
      unfold s_store_Store_Append
      have d3 : decide ((m.room : Int) - sumB m.fs < b.length) = true := decide_eq_true hbig
      cases d : (ofE m at' != 0) with
      | false => simp only [h0, d, hylen, hfree, d3, JN_0, JN_1, JN_2, JN_3, JN_4, JN_5, JN_6, JN_7, JN_8, JN_9, JN_10, JN_11, JN_12, JN_13, JN_14, JN_15, JN_16, JN_17, JN_18, JN_19, JN_20, JN_21, JN_22, JN_23, JN_24, B1_s, B2_s, BN_s, CD_t, CD_f, GO_tt, GO_ft, GO_tf, GO_ff, GO_ut, GO_uf, GD2_tt, GD2_ft, GD2_tf, GD2_ff, pk_t, pk_f, nilA_p, nilA_i, fa_p, fd_a, ex_t, iadd_i, isub_i, imul_i, ieq_i, ine_i, ilt_i, ile_i, igt_i, ige_i, seq_s, sne_s, slt_s, lens_s, lenx_0, lenx_s, not_b, cv_i, pe_00, pe_0p, pe_p0, eqB_e, eqB_n, List.getElem?_cons_zero, List.getElem?_cons_succ, Nat.zero_add, Bool.not_true, Bool.not_false, decide_true, decide_false, Int.reduceBEq, Int.reduceBNe, Int.reduceLT, Int.reduceLE, Int.reduceGT, Int.reduceGE, Int.reduceNeg, BEq.rfl, bne_self_eq_false, ge_iff_le, gt_iff_lt]
      | true => simp only [h0, d, hE d, hylen, hfree, d3, JN_0, JN_1, JN_2, JN_3, JN_4, JN_5, JN_6, JN_7, JN_8, JN_9, JN_10, JN_11, JN_12, JN_13, JN_14, JN_15, JN_16, JN_17, JN_18, JN_19, JN_20, JN_21, JN_22, JN_23, JN_24, B1_s, B2_s, BN_s, CD_t, CD_f, GO_tt, GO_ft, GO_tf, GO_ff, GO_ut, GO_uf, GD2_tt, GD2_ft, GD2_tf, GD2_ff, pk_t, pk_f, nilA_p, nilA_i, fa_p, fd_a, ex_t, iadd_i, isub_i, imul_i, ieq_i, ine_i, ilt_i, ile_i, igt_i, ige_i, seq_s, sne_s, slt_s, lens_s, lenx_0, lenx_s, not_b, cv_i, pe_00, pe_0p, pe_p0, eqB_e, eqB_n, List.getElem?_cons_zero, List.getElem?_cons_succ, Nat.zero_add, Bool.not_true, Bool.not_false, decide_true, decide_false, Int.reduceBEq, Int.reduceBNe, Int.reduceLT, Int.reduceLE, Int.reduceGT, Int.reduceGE, Int.reduceNeg, BEq.rfl, bne_self_eq_false, ge_iff_le, gt_iff_lt]
    · have d3 : decide ((m.room : Int) - sumB m.fs < b.length) = false := decide_eq_false hbig
      obtain ⟨H1, L1, b1, b2, b3, b4⟩ := burn_c h
      rcases hcase with ⟨e, q1, q2, a, x, c, r1, r2, r3, r4, r5, r6, hx, hf⟩ | ⟨e, q1, q2, r6, r5, r3⟩
      · rw [r5, e] at h0
        have hcm : appM m at' b = if burnB m = false then (11, burnM m) else (0, { burnM m with fs := setF at' ⟨x.f.nm, x.f.b ++ b, x.f.sure⟩ m.fs }) := by
          unfold appM; rw [if_neg he2, if_neg (by simp [r6]; omega), r6]
        cases hB : burnB m with
        | false =>
          rw [hcm, if_pos hB]
          refine ⟨H1, L1, c_store_Store_Append ?_, b2, b3⟩
          unfold s_store_Store_Append
          simp only [h0, hylen, hfree, d3, b1, hB, JN_0, JN_1, JN_2, JN_3, JN_4, JN_5, JN_6, JN_7, JN_8, JN_9, JN_10, JN_11, JN_12, JN_13, JN_14, JN_15, JN_16, JN_17, JN_18, JN_19, JN_20, JN_21, JN_22, JN_23, JN_24, B1_s, B2_s, BN_s, CD_t, CD_f, GO_tt, GO_ft, GO_tf, GO_ff, GO_ut, GO_uf, GD2_tt, GD2_ft, GD2_tf, GD2_ff, pk_t, pk_f, nilA_p, nilA_i, fa_p, fd_a, ex_t, iadd_i, isub_i, imul_i, ieq_i, ine_i, ilt_i, ile_i, igt_i, ige_i, seq_s, sne_s, slt_s, lens_s, lenx_0, lenx_s, not_b, cv_i, pe_00, pe_0p, pe_p0, eqB_e, eqB_n, List.getElem?_cons_zero, List.getElem?_cons_succ, Nat.zero_add, Bool.not_true, Bool.not_false, decide_true, decide_false, Int.reduceBEq, Int.reduceBNe, Int.reduceLT, Int.reduceLE, Int.reduceGT, Int.reduceGE, Int.reduceNeg, BEq.rfl, bne_self_eq_false, ge_iff_le, gt_iff_lt]
        | true =>
          rw [hcm, if_neg (by simp [hB])]
          obtain ⟨e1, e2, e3, e4, e5, e6⟩ := b4 hB
          rw [e1] at b2 b3
          obtain ⟨hg1, hg2⟩ := b2.file x hx
          have hl1 := hg1.ld (o := 0) rfl
          have hy1 := hy.out e2 fun j hj q => hyd j hj (by rw [List.mem_singleton.1 q]; exact St.mem_p)
          have hlen2 : (bs x.f.b).length + (bs b).length ≤ 16777216 := by
            rw [bs_len, bs_len]
            have := len_le hf; omega
          obtain ⟨s', H2, a1, a2, a3, a4⟩ := append_ok (z := [.int .u8 0]) hg2 hy1 (bs_one b) (by omega) hlen2
          rw [← bs_app] at a2
          obtain ⟨H3, p1, p2, p3, p4⟩ := b2.put0 hx a3 a2 a4
          have hld2 : ld (.ptr x.id 0) H1 = some x.sl := hl1
          have hset := b2.setFile (f := ⟨x.f.nm, x.f.b ++ b, x.f.sure⟩) r1 (by rw [r2]; exact r3) (by rw [r2]; exact r4) rfl p3 (fun j hj => hj) p2 p4 a4 (rid_nd _) (by have := h.ok.sure x.f hf; simp; omega) (fun k hk => (List.mem_append.1 hk).elim (h.ok.byte x.f hf k) (hb k)) (by
            have := b2.sum_set r1 (by rw [r2]; exact r3) (by rw [r2]; exact r4) ⟨x.f.nm, x.f.b ++ b, x.f.sure⟩
            rw [e3] at this ⊢
            rw [e4]
            simp only [List.length_append] at this; omega)
          obtain ⟨s1, s2⟩ := hset
          rw [e3, r2] at s1
          refine ⟨H3, _, c_store_Store_Append ?_, by rw [r2]; exact s1, b3.trans s2⟩
          unfold s_store_Store_Append
          simp only [h0, hylen, hfree, d3, b1, hB, hl1, a1, p1, JN_0, JN_1, JN_2, JN_3, JN_4, JN_5, JN_6, JN_7, JN_8, JN_9, JN_10, JN_11, JN_12, JN_13, JN_14, JN_15, JN_16, JN_17, JN_18, JN_19, JN_20, JN_21, JN_22, JN_23, JN_24, B1_s, B2_s, BN_s, CD_t, CD_f, GO_tt, GO_ft, GO_tf, GO_ff, GO_ut, GO_uf, GD2_tt, GD2_ft, GD2_tf, GD2_ff, pk_t, pk_f, nilA_p, nilA_i, fa_p, fd_a, ex_t, iadd_i, isub_i, imul_i, ieq_i, ine_i, ilt_i, ile_i, igt_i, ige_i, seq_s, sne_s, slt_s, lens_s, lenx_0, lenx_s, not_b, cv_i, pe_00, pe_0p, pe_p0, eqB_e, eqB_n, List.getElem?_cons_zero, List.getElem?_cons_succ, Nat.zero_add, Bool.not_true, Bool.not_false, decide_true, decide_false, Int.reduceBEq, Int.reduceBNe, Int.reduceLT, Int.reduceLE, Int.reduceGT, Int.reduceGE, Int.reduceNeg, BEq.rfl, bne_self_eq_false, ge_iff_le, gt_iff_lt]
      · rw [r5, e] at h0
        by_cases hmany : 64 ≤ m.fs.length
        · have : appM m at' b = (6, m) := by unfold appM; rw [if_neg he2, if_pos (.inr ⟨by rw [r6]; rfl, hmany⟩)]
          rw [this]
          refine ⟨H, L, c_store_Store_Append ?_, h, Go'.refl _ _ _⟩
          unfold s_store_Store_Append
          have d4 : decide ((64 : Int) ≤ (m.fs.length : Int)) = true := decide_eq_true (by omega)
          simp only [h0, hylen, hfree, d3, hmap, hlenm, d4, JN_0, JN_1, JN_2, JN_3, JN_4, JN_5, JN_6, JN_7, JN_8, JN_9, JN_10, JN_11, JN_12, JN_13, JN_14, JN_15, JN_16, JN_17, JN_18, JN_19, JN_20, JN_21, JN_22, JN_23, JN_24, B1_s, B2_s, BN_s, CD_t, CD_f, GO_tt, GO_ft, GO_tf, GO_ff, GO_ut, GO_uf, GD2_tt, GD2_ft, GD2_tf, GD2_ff, pk_t, pk_f, nilA_p, nilA_i, fa_p, fd_a, ex_t, iadd_i, isub_i, imul_i, ieq_i, ine_i, ilt_i, ile_i, igt_i, ige_i, seq_s, sne_s, slt_s, lens_s, lenx_0, lenx_s, not_b, cv_i, pe_00, pe_0p, pe_p0, eqB_e, eqB_n, List.getElem?_cons_zero, List.getElem?_cons_succ, Nat.zero_add, Bool.not_true, Bool.not_false, decide_true, decide_false, Int.reduceBEq, Int.reduceBNe, Int.reduceLT, Int.reduceLE, Int.reduceGT, Int.reduceGE, Int.reduceNeg, BEq.rfl, bne_self_eq_false, ge_iff_le, gt_iff_lt]
        · have d4 : decide ((64 : Int) ≤ (m.fs.length : Int)) = false := decide_eq_false (by omega)
          have hcm : appM m at' b = if burnB m = false then (11, burnM m) else (0, { burnM m with fs := m.fs ++ [⟨at', b, 0⟩] }) := by
            unfold appM; rw [if_neg he2, if_neg (by rw [r6]; simp; omega), r6]
          cases hB : burnB m with
          | false =>
            rw [hcm, if_pos hB]
            refine ⟨H1, L1, c_store_Store_Append ?_, b2, b3⟩
            unfold s_store_Store_Append
            simp only [h0, hylen, hfree, d3, hmap, hlenm, d4, b1, hB, JN_0, JN_1, JN_2, JN_3, JN_4, JN_5, JN_6, JN_7, JN_8, JN_9, JN_10, JN_11, JN_12, JN_13, JN_14, JN_15, JN_16, JN_17, JN_18, JN_19, JN_20, JN_21, JN_22, JN_23, JN_24, B1_s, B2_s, BN_s, CD_t, CD_f, GO_tt, GO_ft, GO_tf, GO_ff, GO_ut, GO_uf, GD2_tt, GD2_ft, GD2_tf, GD2_ff, pk_t, pk_f, nilA_p, nilA_i, fa_p, fd_a, ex_t, iadd_i, isub_i, imul_i, ieq_i, ine_i, ilt_i, ile_i, igt_i, ige_i, seq_s, sne_s, slt_s, lens_s, lenx_0, lenx_s, not_b, cv_i, pe_00, pe_0p, pe_p0, eqB_e, eqB_n, List.getElem?_cons_zero, List.getElem?_cons_succ, Nat.zero_add, Bool.not_true, Bool.not_false, decide_true, decide_false, Int.reduceBEq, Int.reduceBNe, Int.reduceLT, Int.reduceLE, Int.reduceGT, Int.reduceGE, Int.reduceNeg, BEq.rfl, bne_self_eq_false, ge_iff_le, gt_iff_lt]
          | true =>
            rw [hcm, if_neg (by simp [hB])]
            obtain ⟨e1, e2, e3, e4, e5, e6⟩ := b4 hB
            rw [e1] at b2 b3
            have hfl : fl [.slice0, (.int .i64 0)] [] = some [AV.slice0, .int .i64 ((0 : Nat) : Int)] := rfl
            obtain ⟨H2, n1, n2, n3, n4⟩ := bx_ok H1 66 (.agg [AV.slice0, .int .i64 ((0 : Nat) : Int)]) [AV.slice0, .int .i64 ((0 : Nat) : Int)] rfl (by simp)
            have b5 := b2.out n3 fun j _ q => by cases q
            have hlt := b2.lt
            have hmap2 := b5.ld_map
            have hne : ∀ y ∈ L.cs, y.f.nm ≠ (⟨at', [], 0⟩ : Fl).nm := r3
            obtain ⟨H3, f1, f2, f3⟩ := b5.addFile (id := H1.next) (sl := .slice0) (f := ⟨at', [], 0⟩) hne ⟨_, n2⟩ .nil (fun j hj => by
                simp only [FC.ids, rid, List.mem_singleton] at hj
                intro q
                have := hlt j q; omega) (by simp [FC.ids, rid]) (by simp) (fun c hc => by cases hc) (by simp only [List.length_nil]; rw [e3, e4]; omega) q2 (by rw [e3]; omega)
            have hx' : (⟨H1.next, .slice0, L.clk, ⟨at', [], 0⟩⟩ : FC) ∈ L.cs ++ [⟨H1.next, .slice0, L.clk, ⟨at', [], 0⟩⟩] := by simp
            obtain ⟨hg1, hg2⟩ := f2.file _ hx'
            have hl1 := hg1.ld (o := 0) rfl
            have hnextlt : ∀ j ∈ rid y, j < H1.next := fun j hj => Nat.lt_of_lt_of_le (hy.lt j hj) e2.1
            have hy1 : Rw H3 1 y (bs b) := ((hy.out e2 fun j hj q => hyd j hj (by rw [List.mem_singleton.1 q]; exact St.mem_p)).out n3 fun j _ q => by cases q).out f3 fun j hj q => hyd j hj (by rw [List.mem_singleton.1 q]; exact St.mem_mid)
            have hlen2 : ([] : List AV).length + (bs b).length ≤ 16777216 := by
              rw [bs_len]; simp only [List.length_nil]; omega
            obtain ⟨s', H4, a1, a2, a3, a4⟩ := append_ok (z := [.int .u8 0]) (l := []) hg2 hy1 (bs_one b) (by omega) hlen2
            rw [List.nil_append] at a2
            obtain ⟨H5, p1, p2, p3, p4⟩ := f2.put0 hx' a3 a2 a4
            have hsplit : L.cs ++ [(⟨H1.next, .slice0, L.clk, ⟨at', [], 0⟩⟩ : FC)] = L.cs ++ (⟨H1.next, .slice0, L.clk, ⟨at', [], 0⟩⟩ : FC) :: [] := rfl
            have hset := f2.setFile (f := ⟨at', b, 0⟩) hsplit r3 (fun y hy => by cases hy) rfl p3 (fun j hj => hj) p2 p4 a4 (rid_nd _) (Nat.zero_le _) hb (by
              have := f2.sum_set hsplit r3 (fun y hy => by cases hy) ⟨at', b, 0⟩
              simp only [sumB_app, sumB_cons, List.length_nil] at this ⊢
              rw [e3] at this ⊢
              rw [e4]
              have : sumB ([] : List Fl) = 0 := rfl
              omega)
            obtain ⟨s1, s2⟩ := hset
            have hfs : setF at' ⟨at', b, 0⟩ ((burnM m).fs ++ [(⟨at', [], 0⟩ : Fl)]) = m.fs ++ [⟨at', b, 0⟩] := by
              rw [e3]
              have : m.fs ++ [(⟨at', [], 0⟩ : Fl)] = (L.cs ++ (⟨H1.next, .slice0, L.clk, ⟨at', [], 0⟩⟩ : FC) :: []).map (·.f) := by rw [h.fs, List.map_append]; rfl
              rw [this, setF_split (at' := at') (x := ⟨H1.next, .slice0, L.clk, ⟨at', [], 0⟩⟩) (b := []) rfl r3 (fun y hy => by cases hy), h.fs]; rfl
            refine ⟨H5, _, c_store_Store_Append ?_, by
              have := s1
              simp only at this
              rw [hfs] at this
              exact this, ?_⟩
            · unfold s_store_Store_Append
              simp only [h0, hylen, hfree, d3, hmap, hlenm, d4, b1, hB, hfl, n1, hmap2, f1, hl1, a1, p1, JN_0, JN_1, JN_2, JN_3, JN_4, JN_5, JN_6, JN_7, JN_8, JN_9, JN_10, JN_11, JN_12, JN_13, JN_14, JN_15, JN_16, JN_17, JN_18, JN_19, JN_20, JN_21, JN_22, JN_23, JN_24, B1_s, B2_s, BN_s, CD_t, CD_f, GO_tt, GO_ft, GO_tf, GO_ff, GO_ut, GO_uf, GD2_tt, GD2_ft, GD2_tf, GD2_ff, pk_t, pk_f, nilA_p, nilA_i, fa_p, fd_a, ex_t, iadd_i, isub_i, imul_i, ieq_i, ine_i, ilt_i, ile_i, igt_i, ige_i, seq_s, sne_s, slt_s, lens_s, lenx_0, lenx_s, not_b, cv_i, pe_00, pe_0p, pe_p0, eqB_e, eqB_n, List.getElem?_cons_zero, List.getElem?_cons_succ, Nat.zero_add, Bool.not_true, Bool.not_false, decide_true, decide_false, Int.reduceBEq, Int.reduceBNe, Int.reduceLT, Int.reduceLE, Int.reduceGT, Int.reduceGE, Int.reduceNeg, BEq.rfl, bne_self_eq_false, ge_iff_le, gt_iff_lt]
            · have g1 : Go' p H1 L H3 { L with cs := L.cs ++ [⟨H1.next, .slice0, L.clk, ⟨at', [], 0⟩⟩], clk := L.clk + 1 } := by
                refine ⟨(n3.mono fun j hj => by cases hj).trans (f3.mono fun j hj => by rw [List.mem_singleton.1 hj]; exact St.mem_mid), fun j hj => ?_⟩
                unfold foot at hj
                rw [List.flatMap_append] at hj
                rcases List.mem_cons.1 hj with rfl | hj
                · exact .inl St.mem_p
                rcases List.mem_cons.1 hj with rfl | hj
                · exact .inl St.mem_mid
                rcases List.mem_append.1 hj with hj | hj
                · exact .inl (St.mem_keep hj)
                rcases List.mem_append.1 hj with hj | hj
                · obtain ⟨z, hz, hj⟩ := List.mem_flatMap.1 hj
                  exact .inl (St.mem_file hz hj)
                · simp only [List.flatMap_cons, List.flatMap_nil, List.append_nil, FC.ids, rid, List.mem_singleton] at hj
                  exact .inr (by omega)
              exact (b3.trans g1).trans s2
end
section
variable {H : Hp} {p : Nat} {m : SM} {L : Lay}
/-- a file by another name -/
def putF (f : Fl) (fs : List Fl) : List Fl := if (fs.find? (fun g => g.nm == f.nm)).isSome = true then setF f.nm f fs else fs ++ [f]
noncomputable def swapM (m : SM) (a b : List Nat) : Int × SM := if ofE m a = 11 then (11, m) else if okName b = false then (1, m) else if ofE m a ≠ 0 then (ofE m a, m) else if burnB m = false then (11, burnM m) else
  match look m a with | some f => (0, { burnM m with fs := putF ⟨b, f.b, f.b.length⟩ (delF a m.fs) }) | none => (0, m)
theorem swap_c (h : St H p m L) (at' to' : List Nat) : ∃ H' L', cK (.func (.func 20) [] []) [.ptr p 0, .str at', .str to'] H = some (.int .i64 (swapM m at' to').1, H') ∧ St H' p (swapM m at' to').2 L' ∧ Go' p H L H' L' := by
  have h0 := of_c h at'
  have hn := name_c to' H
  by_cases he11 : ofE m at' = 11
  · have : swapM m at' to' = (11, m) := by unfold swapM; rw [if_pos he11]
    rw [this]
    refine ⟨H, L, c_store_Store_Swap ?_, h, Go'.refl _ _ _⟩
    unfold s_store_Store_Swap
    simp only [h0, he11, JN_0, JN_1, JN_2, JN_3, JN_4, JN_5, JN_6, JN_7, JN_8, JN_9, JN_10, JN_11, JN_12, JN_13, JN_14, JN_15, JN_16, JN_17, JN_18, JN_19, JN_20, JN_21, JN_22, JN_23, JN_24, B1_s, B2_s, BN_s, CD_t, CD_f, GO_tt, GO_ft, GO_tf, GO_ff, GO_ut, GO_uf, GD2_tt, GD2_ft, GD2_tf, GD2_ff, pk_t, pk_f, nilA_p, nilA_i, fa_p, fd_a, ex_t, iadd_i, isub_i, imul_i, ieq_i, ine_i, ilt_i, ile_i, igt_i, ige_i, seq_s, sne_s, slt_s, lens_s, lenx_0, lenx_s, not_b, cv_i, pe_00, pe_0p, pe_p0, eqB_e, eqB_n, List.getElem?_cons_zero, List.getElem?_cons_succ, Nat.zero_add, Bool.not_true, Bool.not_false, decide_true, decide_false, Int.reduceBEq, Int.reduceBNe, Int.reduceLT, Int.reduceLE, Int.reduceGT, Int.reduceGE, Int.reduceNeg, BEq.rfl, bne_self_eq_false, ge_iff_le, gt_iff_lt]
  have d11 : (ofE m at' == 11) = false := by simpa using he11
  cases hok : okName to' with
  | false =>
    have : swapM m at' to' = (1, m) := by unfold swapM; rw [if_neg he11, if_pos hok]
    rw [this]
    refine ⟨H, L, c_store_Store_Swap ?_, h, Go'.refl _ _ _⟩
    unfold s_store_Store_Swap
    simp only [h0, d11, hn, hok, JN_0, JN_1, JN_2, JN_3, JN_4, JN_5, JN_6, JN_7, JN_8, JN_9, JN_10, JN_11, JN_12, JN_13, JN_14, JN_15, JN_16, JN_17, JN_18, JN_19, JN_20, JN_21, JN_22, JN_23, JN_24, B1_s, B2_s, BN_s, CD_t, CD_f, GO_tt, GO_ft, GO_tf, GO_ff, GO_ut, GO_uf, GD2_tt, GD2_ft, GD2_tf, GD2_ff, pk_t, pk_f, nilA_p, nilA_i, fa_p, fd_a, ex_t, iadd_i, isub_i, imul_i, ieq_i, ine_i, ilt_i, ile_i, igt_i, ige_i, seq_s, sne_s, slt_s, lens_s, lenx_0, lenx_s, not_b, cv_i, pe_00, pe_0p, pe_p0, eqB_e, eqB_n, List.getElem?_cons_zero, List.getElem?_cons_succ, Nat.zero_add, Bool.not_true, Bool.not_false, decide_true, decide_false, Int.reduceBEq, Int.reduceBNe, Int.reduceLT, Int.reduceLE, Int.reduceGT, Int.reduceGE, Int.reduceNeg, BEq.rfl, bne_self_eq_false, ge_iff_le, gt_iff_lt]
  | true =>
  by_cases he : ofE m at' = 0
  · obtain ⟨q1, q2, a, x, b, r1, r2, r3, r4, r5, r6, hx, hf⟩ := h.ofP he
    obtain ⟨H1, L1, b1, b2, b3, b4⟩ := burn_c h
    cases hB : burnB m with
    | false =>
      have : swapM m at' to' = (11, burnM m) := by unfold swapM; rw [if_neg he11, if_neg (by simp [hok]), if_neg (by simp [he]), if_pos hB]
      rw [this]
      refine ⟨H1, L1, c_store_Store_Swap ?_, b2, b3⟩
      unfold s_store_Store_Swap
      simp only [h0, he, q1, q2, hn, hok, b1, hB, Bool.false_eq_true, Bool.true_eq_false, or_self, if_false, JN_0, JN_1, JN_2, JN_3, JN_4, JN_5, JN_6, JN_7, JN_8, JN_9, JN_10, JN_11, JN_12, JN_13, JN_14, JN_15, JN_16, JN_17, JN_18, JN_19, JN_20, JN_21, JN_22, JN_23, JN_24, B1_s, B2_s, BN_s, CD_t, CD_f, GO_tt, GO_ft, GO_tf, GO_ff, GO_ut, GO_uf, GD2_tt, GD2_ft, GD2_tf, GD2_ff, pk_t, pk_f, nilA_p, nilA_i, fa_p, fd_a, ex_t, iadd_i, isub_i, imul_i, ieq_i, ine_i, ilt_i, ile_i, igt_i, ige_i, seq_s, sne_s, slt_s, lens_s, lenx_0, lenx_s, not_b, cv_i, pe_00, pe_0p, pe_p0, eqB_e, eqB_n, List.getElem?_cons_zero, List.getElem?_cons_succ, Nat.zero_add, Bool.not_true, Bool.not_false, decide_true, decide_false, Int.reduceBEq, Int.reduceBNe, Int.reduceLT, Int.reduceLE, Int.reduceGT, Int.reduceGE, Int.reduceNeg, BEq.rfl, bne_self_eq_false, ge_iff_le, gt_iff_lt]
    | true =>
      obtain ⟨e1, e2, e3, e4, e5, e6⟩ := b4 hB
      rw [e1] at b2 b3
      obtain ⟨hf1, hf2⟩ := b2.file x hx
      have hl := hf1.ld (o := 0) rfl
      have hlen := hf2.rw.len1
      rw [bs_len] at hlen
      obtain ⟨H2, c1, c2, c3, c4⟩ := put1 (t := (x.f.b.length : Int)) hf1 hf2 (b2.id_nd hx)
      have ra : ∀ y ∈ a, y.f.nm ≠ x.f.nm := by rw [r2]; exact r3
      have rb : ∀ y ∈ b, y.f.nm ≠ x.f.nm := by rw [r2]; exact r4
      obtain ⟨s1, s2⟩ := b2.setFile (f := ⟨x.f.nm, x.f.b, x.f.b.length⟩) r1 ra rb rfl c3 (fun j hj => by rw [List.mem_singleton.1 hj]; exact .head _) c2 c4 (fun j hj => .inl hj) (rid_nd _) (Nat.le_refl _) (h.ok.byte x.f hf) (by
        have := b2.sum_set r1 ra rb ⟨x.f.nm, x.f.b, x.f.b.length⟩
        have := b2.ok.sum
        simp only at *; omega)
      have hm2 := s1.ld_map
      obtain ⟨H3, d1, d2, d3, d4, d5, d6, d7⟩ := s1.delFile (a := a) (b := b) (x := ⟨x.id, x.sl, x.born, ⟨x.f.nm, x.f.b, x.f.b.length⟩⟩) rfl ra rb
      have hdel : delF x.f.nm (setF x.f.nm ⟨x.f.nm, x.f.b, x.f.b.length⟩ (burnM m).fs) = delF at' m.fs := by
        rw [e3, h.fs, r1, setF_split rfl ra rb, delF_split r2 r3 r4]
        have : a.map (·.f) ++ (⟨x.f.nm, x.f.b, x.f.b.length⟩ : Fl) :: b.map (·.f) = (a ++ (⟨x.id, x.sl, x.born, ⟨x.f.nm, x.f.b, x.f.b.length⟩⟩ : FC) :: b).map (·.f) := by rw [List.map_append, List.map_cons]
        rw [this, delF_split (x := ⟨x.id, x.sl, x.born, ⟨x.f.nm, x.f.b, x.f.b.length⟩⟩) rfl ra rb]
      simp only at d1 d2
      rw [hdel] at d2
      have hm3 := d2.ld_map
      have hsw : swapM m at' to' = (0, { burnM m with fs := putF ⟨to', x.f.b, x.f.b.length⟩ (delF at' m.fs) }) := by
        unfold swapM; rw [if_neg he11, if_neg (by simp [hok]), if_neg (by simp [he]), if_neg (by simp [hB]), r6]
      have hsumd : sumB (delF at' m.fs) + x.f.b.length = sumB m.fs := by
        rw [h.fs, r1, delF_split r2 r3 r4, List.map_append, List.map_append, List.map_cons, sumB_app, sumB_app, sumB_cons]; omega
      have hlend : (delF at' m.fs).length < 64 := by
        have h1 := h.ok.many
        rw [h.fs, r1] at h1 ⊢
        rw [delF_split r2 r3 r4]
        simp only [List.length_map, List.length_append, List.length_cons] at h1 ⊢
        omega
      have hsum0 := h.ok.sum
      rw [r2] at d1
      have g3 := (b3.trans s2).trans d3
      rcases d2.lookC to' with ⟨t1, t2, t3⟩ | ⟨a', y, b', t1, t2, t3, t4, t5, t6⟩
      · obtain ⟨H4, f1, f2, f3⟩ := d2.addFile (id := x.id) (sl := x.sl) (f := ⟨to', x.f.b, x.f.b.length⟩) t3 d4 d5 d6 d7 (Nat.le_refl _) (h.ok.byte x.f hf) (by simp only; rw [e4]; omega) hok hlend
        have hput : putF ⟨to', x.f.b, x.f.b.length⟩ (delF at' m.fs) = delF at' m.fs ++ [⟨to', x.f.b, x.f.b.length⟩] := by
          unfold putF
          have : (delF at' m.fs).find? (fun g => g.nm == to') = none := t2
          simp only [this]; rfl
        rw [hsw, hput]
        refine ⟨H4, _, c_store_Store_Swap ?_, f2, g3.1.trans (f3.mono fun j hj => by rw [List.mem_singleton.1 hj]; exact St.mem_mid (L := L)), fun j hj => ?_⟩
        · unfold s_store_Store_Swap
          simp only [h0, he, q1, q2, hn, hok, b1, hB, r5, hl, hlen, c1, hm2, d1, hm3, f1, Bool.false_eq_true, Bool.true_eq_false, or_self, if_false, JN_0, JN_1, JN_2, JN_3, JN_4, JN_5, JN_6, JN_7, JN_8, JN_9, JN_10, JN_11, JN_12, JN_13, JN_14, JN_15, JN_16, JN_17, JN_18, JN_19, JN_20, JN_21, JN_22, JN_23, JN_24, B1_s, B2_s, BN_s, CD_t, CD_f, GO_tt, GO_ft, GO_tf, GO_ff, GO_ut, GO_uf, GD2_tt, GD2_ft, GD2_tf, GD2_ff, pk_t, pk_f, nilA_p, nilA_i, fa_p, fd_a, ex_t, iadd_i, isub_i, imul_i, ieq_i, ine_i, ilt_i, ile_i, igt_i, ige_i, seq_s, sne_s, slt_s, lens_s, lenx_0, lenx_s, not_b, cv_i, pe_00, pe_0p, pe_p0, eqB_e, eqB_n, List.getElem?_cons_zero, List.getElem?_cons_succ, Nat.zero_add, Bool.not_true, Bool.not_false, decide_true, decide_false, Int.reduceBEq, Int.reduceBNe, Int.reduceLT, Int.reduceLE, Int.reduceGT, Int.reduceGE, Int.reduceNeg, BEq.rfl, bne_self_eq_false, ge_iff_le, gt_iff_lt]
        · unfold foot at hj
          rw [List.flatMap_append] at hj
          rcases List.mem_cons.1 hj with rfl | hj
          · exact .inl St.mem_p
          rcases List.mem_cons.1 hj with rfl | hj
          · exact .inl St.mem_mid
          rcases List.mem_append.1 hj with hj | hj
          · exact .inl (St.mem_keep hj)
          rcases List.mem_append.1 hj with hj | hj
          · obtain ⟨z, hz, hj⟩ := List.mem_flatMap.1 hj
            exact g3.2 j (St.mem_file (L := { L with cs := a ++ b }) hz hj)
          · simp only [List.flatMap_cons, List.flatMap_nil, List.append_nil] at hj
            exact .inl (St.mem_file hx hj)
      · have hsy := d2.sum_set t1 (by rw [t2]; exact t3) (by rw [t2]; exact t4) ⟨to', x.f.b, x.f.b.length⟩
        obtain ⟨H4, f1, f2, f3⟩ := d2.replFile t1 (id := x.id) (sl := x.sl) (f := ⟨to', x.f.b, x.f.b.length⟩) t2.symm (by rw [t2]; exact t3) (by rw [t2]; exact t4) d4 d5 d6 d7 (Nat.le_refl _) (h.ok.byte x.f hf) (by simp only at hsy ⊢; rw [e4]; omega)
        have hput : putF ⟨to', x.f.b, x.f.b.length⟩ (delF at' m.fs) = setF y.f.nm ⟨to', x.f.b, x.f.b.length⟩ (delF at' m.fs) := by
          unfold putF
          have : (delF at' m.fs).find? (fun g => g.nm == to') = some y.f := t6
          simp only [this, t2]; rfl
        rw [hsw, hput]
        refine ⟨H4, _, c_store_Store_Swap ?_, f2, g3.1.trans (f3.mono fun j hj => by rw [List.mem_singleton.1 hj]; exact St.mem_mid (L := L)), fun j hj => ?_⟩
        · unfold s_store_Store_Swap
          simp only [h0, he, q1, q2, hn, hok, b1, hB, r5, hl, hlen, c1, hm2, d1, hm3, f1, Bool.false_eq_true, Bool.true_eq_false, or_self, if_false, JN_0, JN_1, JN_2, JN_3, JN_4, JN_5, JN_6, JN_7, JN_8, JN_9, JN_10, JN_11, JN_12, JN_13, JN_14, JN_15, JN_16, JN_17, JN_18, JN_19, JN_20, JN_21, JN_22, JN_23, JN_24, B1_s, B2_s, BN_s, CD_t, CD_f, GO_tt, GO_ft, GO_tf, GO_ff, GO_ut, GO_uf, GD2_tt, GD2_ft, GD2_tf, GD2_ff, pk_t, pk_f, nilA_p, nilA_i, fa_p, fd_a, ex_t, iadd_i, isub_i, imul_i, ieq_i, ine_i, ilt_i, ile_i, igt_i, ige_i, seq_s, sne_s, slt_s, lens_s, lenx_0, lenx_s, not_b, cv_i, pe_00, pe_0p, pe_p0, eqB_e, eqB_n, List.getElem?_cons_zero, List.getElem?_cons_succ, Nat.zero_add, Bool.not_true, Bool.not_false, decide_true, decide_false, Int.reduceBEq, Int.reduceBNe, Int.reduceLT, Int.reduceLE, Int.reduceGT, Int.reduceGE, Int.reduceNeg, BEq.rfl, bne_self_eq_false, ge_iff_le, gt_iff_lt]
        · unfold foot at hj
          rw [List.flatMap_append, List.flatMap_cons] at hj
          have mz : ∀ z, z ∈ a' ∨ z ∈ b' → z ∈ a ++ b := fun z hz => by
            have t1' : a ++ b = a' ++ y :: b' := t1
            rw [t1']
            rcases hz with q | q
            · exact List.mem_append_left _ q
            · exact List.mem_append_right _ (.tail _ q)
          rcases List.mem_cons.1 hj with rfl | hj
          · exact .inl St.mem_p
          rcases List.mem_cons.1 hj with rfl | hj
          · exact .inl St.mem_mid
          rcases List.mem_append.1 hj with hj | hj
          · exact .inl (St.mem_keep hj)
          rcases List.mem_append.1 hj with hj | hj
          · obtain ⟨z, hz, hj⟩ := List.mem_flatMap.1 hj
            exact g3.2 j (St.mem_file (L := { L with cs := a ++ b }) (mz z (.inl hz)) hj)
          rcases List.mem_append.1 hj with hj | hj
          · exact .inl (St.mem_file hx hj)
          · obtain ⟨z, hz, hj⟩ := List.mem_flatMap.1 hj
            exact g3.2 j (St.mem_file (L := { L with cs := a ++ b }) (mz z (.inr hz)) hj)
  · have : swapM m at' to' = (ofE m at', m) := by unfold swapM; rw [if_neg he11, if_neg (by simp [hok]), if_pos he]
    rw [this]
    refine ⟨H, L, c_store_Store_Swap ?_, h, Go'.refl _ _ _⟩
    unfold s_store_Store_Swap
    simp only [h0, d11, hn, hok, ne_of_ofE he, JN_0, JN_1, JN_2, JN_3, JN_4, JN_5, JN_6, JN_7, JN_8, JN_9, JN_10, JN_11, JN_12, JN_13, JN_14, JN_15, JN_16, JN_17, JN_18, JN_19, JN_20, JN_21, JN_22, JN_23, JN_24, B1_s, B2_s, BN_s, CD_t, CD_f, GO_tt, GO_ft, GO_tf, GO_ff, GO_ut, GO_uf, GD2_tt, GD2_ft, GD2_tf, GD2_ff, pk_t, pk_f, nilA_p, nilA_i, fa_p, fd_a, ex_t, iadd_i, isub_i, imul_i, ieq_i, ine_i, ilt_i, ile_i, igt_i, ige_i, seq_s, sne_s, slt_s, lens_s, lenx_0, lenx_s, not_b, cv_i, pe_00, pe_0p, pe_p0, eqB_e, eqB_n, List.getElem?_cons_zero, List.getElem?_cons_succ, Nat.zero_add, Bool.not_true, Bool.not_false, decide_true, decide_false, Int.reduceBEq, Int.reduceBNe, Int.reduceLT, Int.reduceLE, Int.reduceGT, Int.reduceGE, Int.reduceNeg, BEq.rfl, bne_self_eq_false, ge_iff_le, gt_iff_lt]
end
/-- a store that begins -/
theorem new_c (H : Hp) (room : Int) : (room < 1 ∨ 16777216 < room → cK (.func (.func 10) [] []) [.int .i64 room] H = some (.tuple [.ptr0, .int .i64 1], H)) ∧
    ∀ r : Nat, room = r → 1 ≤ r → r ≤ 16777216 → ∃ H' p L, cK (.func (.func 10) [] []) [.int .i64 room] H = some (.tuple [.ptr p 0, .int .i64 0], H') ∧ St H' p ⟨r, false, 0, [], []⟩ L ∧ Out [] H H' ∧ ∀ j ∈ foot p L, H.next ≤ j := by
  constructor
  · intro h
    refine c_store_New ?_
    unfold s_store_New
    by_cases h1 : room < 1
    · simp only [decide_eq_true h1, JN_0, JN_1, JN_2, JN_3, JN_4, JN_5, JN_6, JN_7, JN_8, JN_9, JN_10, JN_11, JN_12, JN_13, JN_14, JN_15, JN_16, JN_17, JN_18, JN_19, JN_20, JN_21, JN_22, JN_23, JN_24, B1_s, B2_s, BN_s, CD_t, CD_f, GO_tt, GO_ft, GO_tf, GO_ff, GO_ut, GO_uf, GD2_tt, GD2_ft, GD2_tf, GD2_ff, pk_t, pk_f, nilA_p, nilA_i, fa_p, fd_a, ex_t, iadd_i, isub_i, imul_i, ieq_i, ine_i, ilt_i, ile_i, igt_i, ige_i, seq_s, sne_s, slt_s, lens_s, lenx_0, lenx_s, not_b, cv_i, pe_00, pe_0p, pe_p0, eqB_e, eqB_n, List.getElem?_cons_zero, List.getElem?_cons_succ, Nat.zero_add, Bool.not_true, Bool.not_false, decide_true, decide_false, Int.reduceBEq, Int.reduceBNe, Int.reduceLT, Int.reduceLE, Int.reduceGT, Int.reduceGE, Int.reduceNeg, BEq.rfl, bne_self_eq_false, ge_iff_le, gt_iff_lt]
    · simp only [decide_eq_false h1, decide_eq_true (show (16777216 : Int) < room by omega), JN_0, JN_1, JN_2, JN_3, JN_4, JN_5, JN_6, JN_7, JN_8, JN_9, JN_10, JN_11, JN_12, JN_13, JN_14, JN_15, JN_16, JN_17, JN_18, JN_19, JN_20, JN_21, JN_22, JN_23, JN_24, B1_s, B2_s, BN_s, CD_t, CD_f, GO_tt, GO_ft, GO_tf, GO_ff, GO_ut, GO_uf, GD2_tt, GD2_ft, GD2_tf, GD2_ff, pk_t, pk_f, nilA_p, nilA_i, fa_p, fd_a, ex_t, iadd_i, isub_i, imul_i, ieq_i, ine_i, ilt_i, ile_i, igt_i, ige_i, seq_s, sne_s, slt_s, lens_s, lenx_0, lenx_s, not_b, cv_i, pe_00, pe_0p, pe_p0, eqB_e, eqB_n, List.getElem?_cons_zero, List.getElem?_cons_succ, Nat.zero_add, Bool.not_true, Bool.not_false, decide_true, decide_false, Int.reduceBEq, Int.reduceBNe, Int.reduceLT, Int.reduceLE, Int.reduceGT, Int.reduceGE, Int.reduceNeg, BEq.rfl, bne_self_eq_false, ge_iff_le, gt_iff_lt]
  · intro r hr h1 h2
    subst hr
    obtain ⟨H1, a1, a2, a3, a4⟩ := mk0_ok H
    have hfl : fl [(.int .i64 0), .map0, (.bool false), (.int .i64 0), .slice0] [(0, 1, AV.int .i64 (r : Int)), (1, 1, (.map H.next))] = some [.int .i64 (r : Int), .map H.next, .bool false, .int .i64 ((0 : Nat) : Int), .slice0] := rfl
    obtain ⟨H2, b1, b2, b3, b4⟩ := bx_ok H1 61 (.agg [.int .i64 (r : Int), .map H.next, .bool false, .int .i64 ((0 : Nat) : Int), .slice0]) _ rfl (by simp)
    have a2' := a2.out b3 fun q => by cases q
    refine ⟨H2, H1.next, ⟨H.next, 0, .slice0, []⟩, c_store_New ?_, ⟨⟨_, b2⟩, a2', (fun x hx => by cases hx), .nil, ?_, rfl, rfl, ⟨h2, Nat.zero_le _, (fun f hf => by cases hf), (fun f hf => by cases hf), by simp, List.nodup_nil, (fun f hf => by cases hf), by simp⟩⟩, a3.trans b3, fun j hj => ?_⟩
    · unfold s_store_New
      simp only [decide_eq_false (show ¬ (r : Int) < 1 by omega), decide_eq_false (show ¬ (16777216 : Int) < (r : Int) by omega), a1, hfl, b1, JN_0, JN_1, JN_2, JN_3, JN_4, JN_5, JN_6, JN_7, JN_8, JN_9, JN_10, JN_11, JN_12, JN_13, JN_14, JN_15, JN_16, JN_17, JN_18, JN_19, JN_20, JN_21, JN_22, JN_23, JN_24, B1_s, B2_s, BN_s, CD_t, CD_f, GO_tt, GO_ft, GO_tf, GO_ff, GO_ut, GO_uf, GD2_tt, GD2_ft, GD2_tf, GD2_ff, pk_t, pk_f, nilA_p, nilA_i, fa_p, fd_a, ex_t, iadd_i, isub_i, imul_i, ieq_i, ine_i, ilt_i, ile_i, igt_i, ige_i, seq_s, sne_s, slt_s, lens_s, lenx_0, lenx_s, not_b, cv_i, pe_00, pe_0p, pe_p0, eqB_e, eqB_n, List.getElem?_cons_zero, List.getElem?_cons_succ, Nat.zero_add, Bool.not_true, Bool.not_false, decide_true, decide_false, Int.reduceBEq, Int.reduceBNe, Int.reduceLT, Int.reduceLE, Int.reduceGT, Int.reduceGE, Int.reduceNeg, BEq.rfl, bne_self_eq_false, ge_iff_le, gt_iff_lt]
    · simp only [foot, rid, List.flatMap_nil, List.append_nil, List.nodup_cons, List.mem_singleton, List.not_mem_nil, not_false_eq_true, List.nodup_nil, and_true]
      omega
    · simp only [foot, rid, List.flatMap_nil, List.append_nil, List.mem_cons, List.not_mem_nil, or_false] at hj
      omega
end Go.Proofs.YtnabkcdchklnpaaDoor.StC
