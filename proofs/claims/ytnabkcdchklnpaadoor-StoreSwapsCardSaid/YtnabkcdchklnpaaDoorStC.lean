/- What the store's functions do, as contracts over the symbolic heap. Conditions: as each states them. -/
import Derived.Test.YtnabkcdchklnpaaDoorStK
import Derived.Test.YtnabkcdchklnpaaDoorAm13
namespace Go.Proofs.YtnabkcdchklnpaaDoor.StC
open Go Am Am.K StEnv StK
set_option linter.unusedVariables false
set_option linter.unusedSimpArgs false
set_option maxRecDepth 10000

theorem prim_trim : prim 48 = some trimP := by kernel_rfl
theorem prim_free : prim 17 = some freeP := by kernel_rfl
theorem prim_names : prim 22 = some (namesP 9) := by kernel_rfl
abbrev cutN : List Nat := [97, 98, 99, 100, 101, 102, 103, 104, 105, 106, 107, 108, 109, 110, 111, 112, 113, 114, 115, 116, 117, 118, 119, 120, 121, 122, 48, 49, 50, 51, 52, 53, 54, 55, 56, 57, 45]
theorem trim_c (s : List Nat) (H : Hp) (hs : s.length ≤ 4294967296) : cK (.func (.func 48) [] []) [.str s, .str cutN] H = some (.str (trimN s cutN), H) := by
  refine ck_prim prim_trim ?_
  have h1 : lowC cutN = true := by decide
  have h2 : F.bothB (lowC cutN) (F.bothB (Nat.ble (F.lenL s) 4294967296) (Nat.ble (F.lenL cutN) 4294967280)) = true := by
    rw [F.bothB_eq, F.bothB_eq, F.lenL_eq, F.lenL_eq, h1]
    simp only [Bool.true_and, Bool.and_eq_true, Nat.ble_eq]
    exact ⟨hs, by decide⟩
  show trim2 H s cutN = _
  unfold trim2
  rw [h2]
/-- a name may be so -/
noncomputable def okName (s : List Nat) : Bool := !(s == []) && (decide ((s.length : Int) ≤ 16) && (trimN s cutN == []))
theorem name_c (s : List Nat) (H : Hp) : cK (.func (.func 40) [] []) [.str s] H = some (.bool (okName s), H) := by
  refine c_store_name ?_
  unfold s_store_name okName
  cases h0 : (s == []) with
  | true => simp only [JN_0, JN_1, JN_2, JN_3, JN_4, JN_5, JN_6, JN_7, JN_8, JN_9, JN_10, JN_11, JN_12, JN_13, JN_14, JN_15, JN_16, JN_17, JN_18, JN_19, JN_20, JN_21, JN_22, JN_23, JN_24, B1_s, B2_s, BN_s, CD_t, CD_f, GO_tt, GO_ft, GO_tf, GO_ff, GO_ut, GO_uf, GD2_tt, GD2_ft, GD2_tf, GD2_ff, pk_t, pk_f, nilA_p, nilA_i, fa_p, fd_a, ex_t, iadd_i, isub_i, imul_i, ieq_i, ine_i, ilt_i, ile_i, igt_i, ige_i, seq_s, sne_s, slt_s, lens_s, lenx_0, lenx_s, not_b, cv_i, pe_00, pe_0p, pe_p0, eqB_e, eqB_n, List.getElem?_cons_zero, List.getElem?_cons_succ, Nat.zero_add, Bool.not_true, Bool.not_false, decide_true, decide_false, Int.reduceBEq, Int.reduceBNe, Int.reduceLT, Int.reduceLE, Int.reduceGT, Int.reduceGE, Int.reduceNeg, BEq.rfl, bne_self_eq_false, ge_iff_le, gt_iff_lt, h0, Bool.false_and]
  | false =>
    by_cases h1 : (s.length : Int) ≤ 16
    · have ht := trim_c s H (by omega)
      simp only [JN_0, JN_1, JN_2, JN_3, JN_4, JN_5, JN_6, JN_7, JN_8, JN_9, JN_10, JN_11, JN_12, JN_13, JN_14, JN_15, JN_16, JN_17, JN_18, JN_19, JN_20, JN_21, JN_22, JN_23, JN_24, B1_s, B2_s, BN_s, CD_t, CD_f, GO_tt, GO_ft, GO_tf, GO_ff, GO_ut, GO_uf, GD2_tt, GD2_ft, GD2_tf, GD2_ff, pk_t, pk_f, nilA_p, nilA_i, fa_p, fd_a, ex_t, iadd_i, isub_i, imul_i, ieq_i, ine_i, ilt_i, ile_i, igt_i, ige_i, seq_s, sne_s, slt_s, lens_s, lenx_0, lenx_s, not_b, cv_i, pe_00, pe_0p, pe_p0, eqB_e, eqB_n, List.getElem?_cons_zero, List.getElem?_cons_succ, Nat.zero_add, Bool.not_true, Bool.not_false, decide_true, decide_false, Int.reduceBEq, Int.reduceBNe, Int.reduceLT, Int.reduceLE, Int.reduceGT, Int.reduceGE, Int.reduceNeg, BEq.rfl, bne_self_eq_false, ge_iff_le, gt_iff_lt, h0, h1, ht, Bool.true_and]
    · simp only [JN_0, JN_1, JN_2, JN_3, JN_4, JN_5, JN_6, JN_7, JN_8, JN_9, JN_10, JN_11, JN_12, JN_13, JN_14, JN_15, JN_16, JN_17, JN_18, JN_19, JN_20, JN_21, JN_22, JN_23, JN_24, B1_s, B2_s, BN_s, CD_t, CD_f, GO_tt, GO_ft, GO_tf, GO_ff, GO_ut, GO_uf, GD2_tt, GD2_ft, GD2_tf, GD2_ff, pk_t, pk_f, nilA_p, nilA_i, fa_p, fd_a, ex_t, iadd_i, isub_i, imul_i, ieq_i, ine_i, ilt_i, ile_i, igt_i, ige_i, seq_s, sne_s, slt_s, lens_s, lenx_0, lenx_s, not_b, cv_i, pe_00, pe_0p, pe_p0, eqB_e, eqB_n, List.getElem?_cons_zero, List.getElem?_cons_succ, Nat.zero_add, Bool.not_true, Bool.not_false, decide_true, decide_false, Int.reduceBEq, Int.reduceBNe, Int.reduceLT, Int.reduceLE, Int.reduceGT, Int.reduceGE, Int.reduceNeg, BEq.rfl, bne_self_eq_false, ge_iff_le, gt_iff_lt, h0, h1, Bool.true_and, Bool.false_and]

/-! what a store is -/
structure Fl where
  nm : List Nat
  b : List Nat
  sure : Nat
structure SM where
  room : Nat
  off : Bool
  fuse : Nat
  keep : List Int
  fs : List Fl
/-- a file as it lies in the heap -/
structure FC where
  id : Nat
  sl : AV
  born : Nat
  f : Fl
def FC.me (x : FC) : ME := ⟨.str x.f.nm, .ptr x.id 0, x.born⟩
def FC.ids (x : FC) : List Nat := x.id :: rid x.sl
structure Lay where
  mid : Nat
  clk : Nat
  keep : AV
  cs : List FC
def foot (p : Nat) (L : Lay) : List Nat := p :: L.mid :: (rid L.keep ++ L.cs.flatMap FC.ids)
def ints (l : List Int) : List AV := l.map fun z => .int .i64 z
def sumB (fs : List Fl) : Nat := (fs.map (·.b.length)).sum
def C0 (H : Hp) (i : Nat) (l : List AV) : Prop := ∃ el, Cs H i l el 0
theorem C0.out {H H' : Hp} {i : Nat} {l : List AV} {S : List Nat} (h : C0 H i l) (k : Out S H H') (hi : i ∉ S) : C0 H' i l := by
  obtain ⟨el, h⟩ := h; exact ⟨el, h.out k hi⟩
theorem C0.ld {H : Hp} {i : Nat} {l : List AV} (h : C0 H i l) {o : Nat} {v : AV} (hv : l[o]? = some v) : ld (.ptr i o) H = some v := by
  obtain ⟨el, h⟩ := h; exact h.ld hv
theorem C0.st {H : Hp} {i : Nat} {l : List AV} (h : C0 H i l) {o : Nat} (ho : o < l.length) {v : AV} (hv : oneC v = true) :
    ∃ H', st 1 (.ptr i o) v H = some H' ∧ C0 H' i (l.set o v) ∧ Out [i] H H' ∧ H'.next = H.next := by
  obtain ⟨el, h⟩ := h
  obtain ⟨H', h1, h2, h3, h4⟩ := st1 h (by omega) ho hv
  exact ⟨H', h1, ⟨el, h2⟩, h3, h4⟩
theorem C0.lt {H : Hp} {i : Nat} {l : List AV} (h : C0 H i l) : i < H.next := by obtain ⟨el, h⟩ := h; exact h.1
/-- what holds of each store -/
structure Okm (m : SM) : Prop where
  room : m.room ≤ 16777216
  sum : sumB m.fs ≤ m.room
  sure : ∀ f ∈ m.fs, f.sure ≤ f.b.length
  byte : ∀ f ∈ m.fs, ∀ c ∈ f.b, c < 256
  fuse : (m.fuse : Int) ≤ 9223372036854775807
  names : (m.fs.map (·.nm)).Nodup
  good : ∀ f ∈ m.fs, okName f.nm = true
  many : m.fs.length ≤ 64
structure St (H : Hp) (p : Nat) (m : SM) (L : Lay) : Prop where
  head : C0 H p [.int .i64 m.room, .map L.mid, .bool m.off, .int .i64 m.fuse, L.keep]
  map : Mp H L.mid (L.cs.map FC.me) L.clk
  file : ∀ x ∈ L.cs, C0 H x.id [x.sl, .int .i64 x.f.sure] ∧ Ow H 5 1 x.sl (bs x.f.b)
  keep : Rw H 1 L.keep (ints m.keep)
  nd : (foot p L).Nodup
  born : incr L.clk (L.cs.map FC.me) 0 = true
  fs : m.fs = L.cs.map (·.f)
  ok : Okm m
/-- what a call may touch -/
def Go' (p : Nat) (H : Hp) (L : Lay) (H' : Hp) (L' : Lay) : Prop := Out (foot p L) H H' ∧ ∀ j ∈ foot p L', j ∈ foot p L ∨ H.next ≤ j
theorem Go'.refl (p : Nat) (H : Hp) (L : Lay) : Go' p H L H L := ⟨Out.refl _ _, fun _ h => .inl h⟩
theorem Go'.trans {p : Nat} {H H' H'' : Hp} {L L' L'' : Lay} (h : Go' p H L H' L') (k : Go' p H' L' H'' L'') : Go' p H L H'' L'' :=
  ⟨h.1.then k.1 h.2, fun j hj => (k.2 j hj).elim (fun q => h.2 j q) (fun q => .inr (Nat.le_trans h.1.1 q))⟩
section
variable {H : Hp} {p : Nat} {m : SM} {L : Lay}
theorem St.mem_p : p ∈ foot p L := .head _
theorem St.mem_mid : L.mid ∈ foot p L := .tail _ (.head _)
theorem St.mem_keep {j : Nat} (h : j ∈ rid L.keep) : j ∈ foot p L := .tail _ (.tail _ (List.mem_append_left _ h))
theorem St.mem_file {x : FC} (hx : x ∈ L.cs) {j : Nat} (h : j ∈ x.ids) : j ∈ foot p L := .tail _ (.tail _ (List.mem_append_right _ (List.mem_flatMap.2 ⟨x, hx, h⟩)))
theorem St.lt (h : St H p m L) : ∀ j ∈ foot p L, j < H.next := by
  intro j hj
  unfold foot at hj
  rcases List.mem_cons.1 hj with rfl | hj
  · exact h.head.lt
  rcases List.mem_cons.1 hj with rfl | hj
  · exact h.map.1
  rcases List.mem_append.1 hj with hj | hj
  · exact h.keep.lt j hj
  · obtain ⟨x, hx, hj⟩ := List.mem_flatMap.1 hj
    rcases List.mem_cons.1 hj with rfl | hj
    · exact (h.file x hx).1.lt
    · exact (h.file x hx).2.rw.lt j hj
/-- what is touched outside changes nothing of a store -/
theorem St.out {H' : Hp} {S : List Nat} (h : St H p m L) (k : Out S H H') (hs : ∀ j ∈ foot p L, j ∉ S) : St H' p m L :=
  ⟨h.head.out k (hs _ St.mem_p), h.map.out k (hs _ St.mem_mid), fun x hx => ⟨(h.file x hx).1.out k (hs _ (St.mem_file hx (.head _))), (h.file x hx).2.out k fun j hj => hs _ (St.mem_file hx (.tail _ hj))⟩,
   h.keep.out k fun j hj => hs _ (St.mem_keep hj), h.nd, h.born, h.fs, h.ok⟩
/-- a file's place in the heap -/
def fp (L : Lay) (at' : List Nat) : AV := match L.cs.find? (fun x => x.f.nm == at') with | none => .ptr0 | some x => .ptr x.id 0
def hasF (fs : List Fl) (at' : List Nat) : Bool := fs.any (fun f => f.nm == at')
theorem St.find (h : St H p m L) (at' : List Nat) : (fp L at' = .ptr0 ∧ hasF m.fs at' = false ∧ ∀ x ∈ L.cs, x.f.nm ≠ at') ∨
    ∃ a x b, L.cs = a ++ x :: b ∧ x.f.nm = at' ∧ (∀ y ∈ a, y.f.nm ≠ at') ∧ (∀ y ∈ b, y.f.nm ≠ at') ∧ fp L at' = .ptr x.id 0 ∧ hasF m.fs at' = true := by
  have hn := h.ok.names
  rw [h.fs, List.map_map] at hn
  unfold fp hasF
  rw [h.fs]
  cases hf : L.cs.find? (fun x => x.f.nm == at') with
  | none =>
    rw [List.find?_eq_none] at hf
    have hf' : ∀ x ∈ L.cs, x.f.nm ≠ at' := fun x hx => by simpa using hf x hx
    refine .inl ⟨rfl, ?_, hf'⟩
    rw [List.any_eq_false]
    intro f hfm
    obtain ⟨x, hx, rfl⟩ := List.mem_map.1 hfm
    simpa using hf' x hx
  | some x =>
    obtain ⟨h1, a, b, h2, h3⟩ := List.find?_eq_some_iff_append.1 hf
    have h1 : x.f.nm = at' := by simpa using h1
    have h3 : ∀ y ∈ a, y.f.nm ≠ at' := fun y hy => by simpa using h3 y hy
    refine .inr ⟨a, x, b, h2, h1, h3, ?_, rfl, ?_⟩
    · intro y hy he
      rw [h2, List.map_append, List.map_cons, List.nodup_append, List.nodup_cons] at hn
      exact hn.2.1.1 (List.mem_map.2 ⟨y, hy, he.trans h1.symm⟩)
    · rw [List.any_eq_true]
      exact ⟨x.f, List.mem_map.2 ⟨x, by rw [h2]; simp, rfl⟩, by simpa using h1⟩
theorem keys_ne {a : List FC} {at' : List Nat} (h : ∀ y ∈ a, y.f.nm ≠ at') : ∀ e ∈ a.map FC.me, ∃ q, e.key = .str q ∧ q ≠ at' := by
  intro e he
  obtain ⟨y, hy, rfl⟩ := List.mem_map.1 he
  exact ⟨_, rfl, h y hy⟩
theorem St.lkp (h : St H p m L) (at' : List Nat) : lkp .str .ptr0 false (.map L.mid) (.str at') H = some (fp L at') := by
  rcases h.find at' with ⟨h1, h2, h3⟩ | ⟨a, x, b, h1, h2, h3, h4, h5, h6⟩
  · rw [lkp_none h.map (keys_ne h3), h1]; rfl
  · have hm := h.map
    rw [h1, List.map_append, List.map_cons] at hm
    rw [lkp_some hm (by rw [FC.me, h2]) (keys_ne h3), h5]; rfl
theorem St.pe0 (h : St H p m L) (at' : List Nat) (H' : Hp) : pe (fp L at') .ptr0 H' = some (!hasF m.fs at') := by
  rcases h.find at' with ⟨h1, h2, h3⟩ | ⟨a, x, b, h1, h2, h3, h4, h5, h6⟩
  · rw [h1, h2]; rfl
  · rw [h5, h6]; rfl
/-- the store's own cells turn -/
theorem St.setHead {H' : Hp} {off : Bool} {fuse : Nat} {keep : AV} {kl : List Int} (h : St H p m L) (hc : C0 H' p [.int .i64 m.room, .map L.mid, .bool off, .int .i64 fuse, keep]) (hf : (fuse : Int) ≤ 9223372036854775807)
    {S : List Nat} (ho : Out S H H') (hS : ∀ j ∈ S, j = p ∨ j ∈ rid L.keep) (hk : Rw H' 1 keep (ints kl)) (hkn : ∀ j ∈ rid keep, j ∈ rid L.keep ∨ H.next ≤ j) (hkd : (rid keep).Nodup) :
    St H' p { m with off := off, fuse := fuse, keep := kl } { L with keep := keep } ∧ Go' p H L H' { L with keep := keep } := by
  have hnd := h.nd
  unfold foot at hnd
  rw [List.nodup_cons, List.nodup_cons, List.nodup_append] at hnd
  obtain ⟨n1, n2, n3, n4, n5⟩ := hnd
  have nS : ∀ j, j ≠ p → j ∉ rid L.keep → j ∉ S := fun j h1 h2 hj => (hS j hj).elim h1 h2
  have hmid : L.mid ∉ S := nS _ (fun q => n1 (by rw [← q]; exact .head _)) (fun q => n2 (List.mem_append_left _ q))
  have hfile : ∀ x ∈ L.cs, ∀ j ∈ x.ids, j ∉ S := fun x hx j hj => by
    have hm : j ∈ L.cs.flatMap FC.ids := List.mem_flatMap.2 ⟨x, hx, hj⟩
    exact nS _ (fun q => n1 (by rw [← q]; exact .tail _ (List.mem_append_right _ hm))) (fun q => n5 _ q _ hm rfl)
  refine ⟨⟨hc, h.map.out ho hmid, fun x hx => ⟨(h.file x hx).1.out ho (hfile x hx _ (.head _)), (h.file x hx).2.out ho fun j hj => hfile x hx j (.tail _ hj)⟩, hk, ?_, h.born, h.fs,
    ⟨h.ok.room, h.ok.sum, h.ok.sure, h.ok.byte, hf, h.ok.names, h.ok.good, h.ok.many⟩⟩, ho.mono (fun j hj => (hS j hj).elim (fun q => by rw [q]; exact St.mem_p) St.mem_keep), fun j hj => ?_⟩
  · have hlt := h.lt
    unfold foot
    rw [List.nodup_cons, List.nodup_cons, List.nodup_append]
    have key : ∀ j ∈ rid keep, j ≠ p ∧ j ≠ L.mid ∧ j ∉ L.cs.flatMap FC.ids := by
      intro j hj
      rcases hkn j hj with q | q
      · exact ⟨fun e => n1 (by rw [← e]; exact .tail _ (List.mem_append_left _ q)), fun e => n2 (by rw [← e]; exact List.mem_append_left _ q), fun e => n5 _ q _ e rfl⟩
      · refine ⟨fun e => ?_, fun e => ?_, fun e => ?_⟩
        · have := hlt p St.mem_p; omega
        · have := hlt L.mid St.mem_mid; omega
        · obtain ⟨x, hx, hj'⟩ := List.mem_flatMap.1 e
          have := hlt j (St.mem_file hx hj'); omega
    refine ⟨fun e => ?_, fun e => ?_, hkd, n4, fun a ha b hb e => (key a ha).2.2 (e ▸ hb)⟩
    · rcases List.mem_cons.1 e with e | e
      · exact n1 (by rw [e]; exact .head _)
      · rcases List.mem_append.1 e with e | e
        · exact (key _ e).1 rfl
        · exact n1 (.tail _ (List.mem_append_right _ e))
    · rcases List.mem_append.1 e with e | e
      · exact (key _ e).2.1 rfl
      · exact n2 (List.mem_append_right _ e)
  · unfold foot at hj
    rcases List.mem_cons.1 hj with rfl | hj
    · exact .inl St.mem_p
    rcases List.mem_cons.1 hj with rfl | hj
    · exact .inl St.mem_mid
    rcases List.mem_append.1 hj with hj | hj
    · exact (hkn j hj).imp St.mem_keep id
    · obtain ⟨x, hx, hj'⟩ := List.mem_flatMap.1 hj
      exact .inl (St.mem_file (L := L) hx hj')
end

section
variable {H : Hp} {p : Nat} {m : SM} {L : Lay}
/-- one file anew -/
def setF (at' : List Nat) (f : Fl) (fs : List Fl) : List Fl := fs.map fun g => if g.nm = at' then f else g
theorem setF_split {a b : List FC} {x : FC} {at' : List Nat} {f : Fl} (hx : x.f.nm = at') (ha : ∀ y ∈ a, y.f.nm ≠ at') (hb : ∀ y ∈ b, y.f.nm ≠ at') : setF at' f ((a ++ x :: b).map (·.f)) = a.map (·.f) ++ f :: b.map (·.f) := by
  unfold setF
  rw [List.map_append, List.map_cons, List.map_append, List.map_cons, if_pos hx]
  congr 1
  · rw [List.map_map]; exact List.map_congr_left fun y hy => if_neg (ha y hy)
  · congr 1
    rw [List.map_map]; exact List.map_congr_left fun y hy => if_neg (hb y hy)
theorem St.setFile {H' : Hp} {a b : List FC} {x : FC} {f : Fl} {sl : AV} (h : St H p m L) (hL : L.cs = a ++ x :: b) (ha : ∀ y ∈ a, y.f.nm ≠ x.f.nm) (hb : ∀ y ∈ b, y.f.nm ≠ x.f.nm) (hnm : f.nm = x.f.nm)
    {S : List Nat} (ho : Out S H H') (hS : ∀ j ∈ S, j ∈ x.ids) (hc : C0 H' x.id [sl, .int .i64 f.sure]) (hw : Ow H' 5 1 sl (bs f.b)) (hr : ∀ j ∈ rid sl, j ∈ rid x.sl ∨ H.next ≤ j) (hrd : (rid sl).Nodup)
    (hsure : f.sure ≤ f.b.length) (hbyte : ∀ c ∈ f.b, c < 256) (hsum : sumB (setF x.f.nm f m.fs) ≤ m.room) :
    St H' p { m with fs := setF x.f.nm f m.fs } { L with cs := a ++ ⟨x.id, sl, x.born, f⟩ :: b } ∧ Go' p H L H' { L with cs := a ++ ⟨x.id, sl, x.born, f⟩ :: b } := by
  have hxL : x ∈ L.cs := by rw [hL]; simp
  have hfs : setF x.f.nm f m.fs = (a ++ ⟨x.id, sl, x.born, f⟩ :: b).map (·.f) := by
    rw [h.fs, hL, setF_split rfl ha hb, List.map_append, List.map_cons]
  have hnd := h.nd
  unfold foot at hnd
  rw [hL, List.flatMap_append, List.flatMap_cons, List.nodup_cons, List.nodup_cons, List.nodup_append, List.nodup_append, List.nodup_append] at hnd
  obtain ⟨n1, n2, n3, ⟨n4, ⟨n5, n6, n7⟩, n8⟩, n9⟩ := hnd
  have hlt := h.lt
  have sub : ∀ j ∈ S, j ∈ x.ids := hS
  have nx : ∀ j, j ∉ x.ids → j ∉ S := fun j hj q => hj (sub j q)
  have hp : p ∉ S := nx _ fun q => n1 (.tail _ (List.mem_append_right _ (List.mem_append_right _ (List.mem_append_left _ q))))
  have hmid : L.mid ∉ S := nx _ fun q => n2 (List.mem_append_right _ (List.mem_append_right _ (List.mem_append_left _ q)))
  have hkeep : ∀ j ∈ rid L.keep, j ∉ S := fun j hj => nx _ fun q => n9 _ hj _ (List.mem_append_right _ (List.mem_append_left _ q)) rfl
  have hA : ∀ y ∈ a, ∀ j ∈ y.ids, j ∉ S := fun y hy j hj => nx _ fun q => n8 _ (List.mem_flatMap.2 ⟨y, hy, hj⟩) _ (List.mem_append_left _ q) rfl
  have hB : ∀ y ∈ b, ∀ j ∈ y.ids, j ∉ S := fun y hy j hj => nx _ fun q => n7 _ q _ (List.mem_flatMap.2 ⟨y, hy, hj⟩) rfl
  -- the new object of the row is nobody else's
  have key : ∀ j ∈ FC.ids ⟨x.id, sl, x.born, f⟩, j ∈ x.ids ∨ H.next ≤ j := by
    intro j hj
    rcases List.mem_cons.1 hj with rfl | hj
    · exact .inl (.head _)
    · exact (hr j hj).imp (List.mem_cons_of_mem _) id
  have away : ∀ j ∈ FC.ids ⟨x.id, sl, x.born, f⟩, ∀ k ∈ foot p L, k ∉ x.ids → j ≠ k := by
    intro j hj k hk hkx e
    rcases key j hj with q | q
    · exact hkx (e ▸ q)
    · have := hlt k hk; omega
  have mA : ∀ y ∈ a, y ∈ L.cs := fun y hy => by rw [hL]; exact List.mem_append_left _ hy
  have mB : ∀ y ∈ b, y ∈ L.cs := fun y hy => by rw [hL]; exact List.mem_append_right _ (.tail _ hy)
  refine ⟨⟨h.head.out ho hp, ?_, ?_, h.keep.out ho hkeep, ?_, ?_, hfs, ⟨h.ok.room, hsum, ?_, ?_, h.ok.fuse, ?_, ?_, ?_⟩⟩, ho.mono fun j hj => St.mem_file hxL (sub j hj), ?_⟩
  · have hm := h.map.out ho hmid
    rw [hL] at hm
    rw [List.map_append, List.map_cons] at hm ⊢
    have : FC.me ⟨x.id, sl, x.born, f⟩ = x.me := by unfold FC.me; rw [hnm]
    rw [this]; exact hm
  · intro y hy
    rcases List.mem_append.1 hy with hy | hy
    · exact ⟨(h.file y (mA y hy)).1.out ho (hA y hy _ (.head _)), (h.file y (mA y hy)).2.out ho fun j hj => hA y hy j (.tail _ hj)⟩
    · rcases List.mem_cons.1 hy with rfl | hy
      · exact ⟨hc, hw⟩
      · exact ⟨(h.file y (mB y hy)).1.out ho (hB y hy _ (.head _)), (h.file y (mB y hy)).2.out ho fun j hj => hB y hy j (.tail _ hj)⟩
  · unfold foot
    rw [List.flatMap_append, List.flatMap_cons, List.nodup_cons, List.nodup_cons, List.nodup_append, List.nodup_append, List.nodup_append]
    have pX : p ∉ x.ids := fun q => n1 (.tail _ (List.mem_append_right _ (List.mem_append_right _ (List.mem_append_left _ q))))
    have mX : L.mid ∉ x.ids := fun q => n2 (List.mem_append_right _ (List.mem_append_right _ (List.mem_append_left _ q)))
    have aX : ∀ k ∈ a.flatMap FC.ids, k ∉ x.ids := fun k hk q => n8 _ hk _ (List.mem_append_left _ q) rfl
    have bX : ∀ k ∈ b.flatMap FC.ids, k ∉ x.ids := fun k hk q => n7 _ q _ hk rfl
    have kX : ∀ k ∈ rid L.keep, k ∉ x.ids := fun k hk q => n9 _ hk _ (List.mem_append_right _ (List.mem_append_left _ q)) rfl
    have fA : ∀ k ∈ a.flatMap FC.ids, k ∈ foot p L := fun k hk => by
      obtain ⟨y, hy, hk⟩ := List.mem_flatMap.1 hk
      exact St.mem_file (mA y hy) hk
    have fB : ∀ k ∈ b.flatMap FC.ids, k ∈ foot p L := fun k hk => by
      obtain ⟨y, hy, hk⟩ := List.mem_flatMap.1 hk
      exact St.mem_file (mB y hy) hk
    refine ⟨fun e => ?_, fun e => ?_, n3, ⟨n4, ⟨?_, n6, fun j hj k hk => away j hj k (fB k hk) (bX k hk)⟩, fun j hj k hk e => ?_⟩, fun j hj k hk e => ?_⟩
    · rcases List.mem_cons.1 e with e | e
      · exact n1 (by rw [e]; exact .head _)
      rcases List.mem_append.1 e with e | e
      · exact n1 (.tail _ (List.mem_append_left _ e))
      rcases List.mem_append.1 e with e | e
      · exact n1 (.tail _ (List.mem_append_right _ (List.mem_append_left _ e)))
      rcases List.mem_append.1 e with e | e
      · exact away _ e p St.mem_p pX rfl
      · exact n1 (.tail _ (List.mem_append_right _ (List.mem_append_right _ (List.mem_append_right _ e))))
    · rcases List.mem_append.1 e with e | e
      · exact n2 (List.mem_append_left _ e)
      rcases List.mem_append.1 e with e | e
      · exact n2 (List.mem_append_right _ (List.mem_append_left _ e))
      rcases List.mem_append.1 e with e | e
      · exact away _ e L.mid St.mem_mid mX rfl
      · exact n2 (List.mem_append_right _ (List.mem_append_right _ (List.mem_append_right _ e)))
    · show (x.id :: rid sl).Nodup
      rw [List.nodup_cons]
      refine ⟨fun q => ?_, hrd⟩
      rcases hr _ q with q | q
      · have : (x.id :: rid x.sl).Nodup := n5
        rw [List.nodup_cons] at this
        exact this.1 q
      · have := hlt x.id (St.mem_file hxL (.head _)); omega
    · rcases List.mem_append.1 hk with hk | hk
      · exact away k hk j (fA j hj) (aX j hj) e.symm
      · exact n8 _ hj _ (List.mem_append_right _ hk) e
    · rcases List.mem_append.1 hk with hk | hk
      · exact n9 _ hj _ (List.mem_append_left _ hk) e
      rcases List.mem_append.1 hk with hk | hk
      · exact away k hk j (St.mem_keep hj) (kX j hj) e.symm
      · exact n9 _ hj _ (List.mem_append_right _ (List.mem_append_right _ hk)) e
  · have hbn := h.born
    rw [hL] at hbn
    rw [List.map_append, List.map_cons] at hbn ⊢
    have : FC.me ⟨x.id, sl, x.born, f⟩ = x.me := by unfold FC.me; rw [hnm]
    rw [this]; exact hbn
  · intro g hg
    unfold setF at hg
    obtain ⟨g', hg', rfl⟩ := List.mem_map.1 hg
    split
    · exact hsure
    · exact h.ok.sure g' hg'
  · intro g hg
    unfold setF at hg
    obtain ⟨g', hg', rfl⟩ := List.mem_map.1 hg
    split
    · exact hbyte
    · exact h.ok.byte g' hg'
  · have : (setF x.f.nm f m.fs).map (·.nm) = m.fs.map (·.nm) := by
      unfold setF
      rw [List.map_map]
      refine List.map_congr_left fun g hg => ?_
      simp only [Function.comp]
      split
      · rename_i q; rw [q, hnm]
      · rfl
    rw [this]; exact h.ok.names
  · intro g hg
    unfold setF at hg
    obtain ⟨g', hg', rfl⟩ := List.mem_map.1 hg
    split
    · rename_i q; rw [hnm, ← q]; exact h.ok.good g' hg'
    · exact h.ok.good g' hg'
  · simp only [setF, List.length_map]; exact h.ok.many
  · intro j hj
    unfold foot at hj
    rcases List.mem_cons.1 hj with rfl | hj
    · exact .inl St.mem_p
    rcases List.mem_cons.1 hj with rfl | hj
    · exact .inl St.mem_mid
    rcases List.mem_append.1 hj with hj | hj
    · exact .inl (St.mem_keep hj)
    · obtain ⟨y, hy, hj'⟩ := List.mem_flatMap.1 hj
      rcases List.mem_append.1 hy with hy | hy
      · exact .inl (St.mem_file (mA y hy) hj')
      · rcases List.mem_cons.1 hy with rfl | hy
        · exact (key j hj').imp (St.mem_file hxL) id
        · exact .inl (St.mem_file (mB y hy) hj')
end

/-! the room that is left, the names -/
theorem sumF_files {H : Hp} : ∀ cs : List FC, (∀ x ∈ cs, C0 H x.id [x.sl, .int .i64 x.f.sure] ∧ Ow H 5 1 x.sl (bs x.f.b)) → sumF H (cs.map FC.me) = some (sumB (cs.map (·.f)))
  | [], _ => rfl
  | x :: cs, h => by
    obtain ⟨h1, h2⟩ := h x (.head _)
    have ih := sumF_files cs fun y hy => h y (.tail _ hy)
    have hl : lenAt H x.me.val = some x.f.b.length := by
      show F.oE lenC (F.cellAt H x.id 0) = _
      rw [F.oE_eq, F.cellAt_eq]
      have h1' : cellAt H x.id 0 = some x.sl := h1.ld (o := 0) rfl
      rw [h1']
      have h3 := h2.rw.len1
      rw [bs_len] at h3
      show lenC x.sl = _
      cases hsl : x.sl <;> rw [hsl] at h3 <;> first | (cases h3; done) | skip
      · simp only [lenx, Option.some.injEq, AV.int.injEq, true_and] at h3
        simp only [lenC, Option.some.injEq]; omega
      · simp only [lenx, Option.some.injEq, AV.int.injEq, true_and] at h3
        simp only [lenC, Option.some.injEq]; omega
    show F.oE (sum2 (sumF H (cs.map FC.me))) (lenAt H x.me.val) = _
    rw [hl, ih]
    show F.forceN some (Nat.add x.f.b.length (sumB (cs.map (·.f)))) = _
    rw [F.forceN_eq]
    rfl
section
variable {H : Hp} {p : Nat} {m : SM} {L : Lay}
theorem free_c (h : St H p m L) : cK (.func (.func 17) [] []) [.ptr p 0] H = some (.int .i64 ((m.room : Int) - sumB m.fs), H) := by
  refine ck_prim prim_free ?_
  have h0 : cellAt H p 0 = some (.int .i64 m.room) := h.head.ld (o := 0) rfl
  have h1 : cellAt H p 1 = some (.map L.mid) := h.head.ld (o := 1) rfl
  have hroom := h.ok.room
  have hsum := h.ok.sum
  have hr : okRoom (m.room : Int) = true := by
    show Nat.ble m.room 9223372036854775807 = true
    rw [Nat.ble_eq]; omega
  show free1 H p 0 = _
  unfold free1
  rw [F.cellAt_eq, F.cellAt_eq, h0, h1]
  show free2 H (.int .i64 m.room) (.map L.mid) = _
  unfold free2
  simp only
  rw [F.bothB_eq, hr, F.get_eq]
  show F.oE (free3 H (m.room : Int)) (H.h.get L.mid) = _
  rw [h.map.2, F.oE_eq]
  show free3 H (m.room : Int) (.map (L.cs.map FC.me) L.clk) = _
  unfold free3
  simp only [h.born]
  show F.oE (free4 H (m.room : Int)) (sumF H (L.cs.map FC.me)) = _
  rw [sumF_files L.cs h.file, F.oE_eq, ← h.fs]
  show free4 H (m.room : Int) (sumB m.fs) = _
  unfold free4
  rw [F.subI_eq, F.oP_eq]
  have : IntKind.wrap .i64 ((m.room : Int) - Int.ofNat (sumB m.fs)) = (m.room : Int) - sumB m.fs := wrap_i64 (by simp only [Int.ofNat_eq_natCast]; omega) (by simp only [Int.ofNat_eq_natCast]; omega)
  rw [this]; rfl
theorem keysN_files : ∀ cs : List FC, keysN (cs.map FC.me) = some (cs.map (·.f.nm))
  | [] => rfl
  | x :: cs => by
    show key1 (keysN (cs.map FC.me)) (.str x.f.nm) = _
    rw [keysN_files cs]; rfl
theorem nodupN_of : ∀ l : List (List Nat), l.Nodup → nodupN l = true
  | [], _ => rfl
  | x :: l, h => by
    rw [List.nodup_cons] at h
    have h1 : memL x l = false := by rw [← Bool.not_eq_true]; exact fun q => h.1 ((memL_iff x l).1 q)
    show @Bool.rec (fun _ => Bool) (nodupN l) false (memL x l) = true
    rw [h1]; exact nodupN_of l h.2
theorem shortN_of : ∀ l : List (List Nat), (∀ x ∈ l, x.length ≤ 16777216) → shortN l = true
  | [], _ => rfl
  | x :: l, h => by
    show F.bothB (Nat.ble (F.lenL x) 16777216) (shortN l) = true
    rw [F.bothB_eq, F.lenL_eq, shortN_of l fun y hy => h y (.tail _ hy), Bool.and_true, Nat.ble_eq]
    exact h x (.head _)
theorem okName_len {s : List Nat} (h : okName s = true) : s.length ≤ 16 := by
  unfold okName at h
  simp only [Bool.and_eq_true, decide_eq_true_eq] at h
  omega
noncomputable def names (m : SM) : List (List Nat) := sortN (m.fs.map (·.nm))
theorem insN_len (x : List Nat) : ∀ l : List (List Nat), (insN x l).length = l.length + 1
  | [] => rfl
  | y :: l => by
    show (@Bool.rec (fun _ => List (List Nat)) (x :: y :: l) (y :: insN x l) (ltN y x)).length = _
    cases ltN y x
    · rfl
    · show (insN x l).length + 1 = _
      rw [insN_len x l]; rfl
theorem sortN_len : ∀ l : List (List Nat), (sortN l).length = l.length
  | [] => rfl
  | x :: l => by
    show (insN x (sortN l)).length = _
    rw [insN_len, sortN_len l]; rfl
theorem insN_mem (x y : List Nat) : ∀ l : List (List Nat), y ∈ insN x l ↔ y = x ∨ y ∈ l
  | [] => by show y ∈ [x] ↔ _; simp
  | z :: l => by
    show y ∈ @Bool.rec (fun _ => List (List Nat)) (x :: z :: l) (z :: insN x l) (ltN z x) ↔ _
    cases ltN z x
    · show y ∈ x :: z :: l ↔ _
      simp
    · show y ∈ z :: insN x l ↔ _
      rw [List.mem_cons, insN_mem x y l, List.mem_cons]
      constructor
      · rintro (h | h | h)
        · exact .inr (.inl h)
        · exact .inl h
        · exact .inr (.inr h)
      · rintro (h | h | h)
        · exact .inr (.inl h)
        · exact .inl h
        · exact .inr (.inr h)
theorem sortN_mem (y : List Nat) : ∀ l : List (List Nat), y ∈ sortN l ↔ y ∈ l
  | [] => Iff.rfl
  | x :: l => by
    show y ∈ insN x (sortN l) ↔ _
    rw [insN_mem, sortN_mem y l, List.mem_cons]
def strs (l : List (List Nat)) : List AV := l.map AV.str
theorem names_c (h : St H p m L) : ∃ x H', cK (.func (.func 22) [] []) [.ptr p 0] H = some (x, H') ∧ Rw H' 1 x (strs (names m)) ∧ Out [] H H' ∧ (∀ j ∈ rid x, H.next ≤ j) ∧ lenx x = some (.int .i64 (names m).length) := by
  have h1 : cellAt H p 1 = some (.map L.mid) := h.head.ld (o := 1) rfl
  have hgood : ∀ x ∈ L.cs.map (·.f.nm), x.length ≤ 16777216 := by
    intro x hx
    obtain ⟨y, hy, rfl⟩ := List.mem_map.1 hx
    have := okName_len (h.ok.good y.f (by rw [h.fs]; exact List.mem_map.2 ⟨y, hy, rfl⟩))
    omega
  have hnd : (L.cs.map (·.f.nm)).Nodup := by
    have := h.ok.names
    rw [h.fs, List.map_map] at this
    exact this
  have hmany := h.ok.many
  rw [h.fs, List.length_map] at hmany
  have hN : names m = sortN (L.cs.map (·.f.nm)) := by unfold names; rw [h.fs, List.map_map]; rfl
  have hp : namesP 9 [.ptr p 0] H = names4 9 H (names m) := by
    show names1 9 H p 0 = _
    unfold names1
    rw [F.cellAt_eq, h1]
    show F.oE (names2 9 H) (F.get H.1 L.mid) = _
    rw [F.get_eq, F.oE_eq]
    show (H.h.get L.mid).bind _ = _
    rw [h.map.2]
    show names2 9 H (.map (L.cs.map FC.me) L.clk) = _
    show F.oE (names3 9 H L.clk (L.cs.map FC.me)) (keysN (L.cs.map FC.me)) = _
    rw [keysN_files, F.oE_eq]
    show names3 9 H L.clk (L.cs.map FC.me) (L.cs.map (·.f.nm)) = _
    unfold names3
    rw [F.bothB_eq, F.bothB_eq, F.bothB_eq, h.born, nodupN_of _ hnd, shortN_of _ hgood, F.lenL_eq]
    have : Nat.ble (L.cs.map FC.me).length 16777216 = true := by rw [Nat.ble_eq, List.length_map]; omega
    rw [this, hN]; rfl
  have hlen : (names m).length = L.cs.length := by rw [hN, sortN_len, List.length_map]
  cases hn : names m with
  | nil =>
    refine ⟨.slice0, H, ck_prim prim_names ?_, .nil, Out.refl _ _, (fun j hj => by cases hj), rfl⟩
    rw [hp, hn]; rfl
  | cons y ys =>
    obtain ⟨H', q1, q2, q3, q4⟩ := newCells_ok H (strs (y :: ys)) 9 0 (by unfold strs; rw [List.length_map, ← hn, hlen]; omega)
    refine ⟨.slice H.next 0 (y :: ys).length (y :: ys).length false 1, H', ck_prim prim_names ?_, .mk q2.ro (by unfold strs; rw [List.length_map, Nat.mul_one]) (Nat.le_refl _) rfl, q3, fun j hj => ?_, rfl⟩
    · rw [hp, hn]
      show F.newC H 9 0 (sl1 (F.lenL (y :: ys))) (F.mapL AV.str (y :: ys)) = _
      rw [F.newC_eq, F.mapL_eq, F.lenL_eq]
      have : newCells H (List.map AV.str (y :: ys)) 9 0 = some (H.next, H') := q1
      rw [this]; rfl
    · simp only [rid, Bool.false_and, cond_false, List.mem_singleton] at hj
      omega
end

/-! the calls -/
theorem rw_one {H : Hp} {es : Nat} {x : AV} {l : List AV} (h : Rw H es x l) : oneC x = true := by cases h <;> rfl
def look (m : SM) (at' : List Nat) : Option Fl := m.fs.find? (fun f => f.nm == at')
noncomputable def ofE (m : SM) (at' : List Nat) : Int := if m.off = true then 11 else if okName at' = false then 1 else if (look m at').isNone = true then 4 else 0
theorem clone_b {H : Hp} {x : AV} {l : List AV} (hx : Rw H 1 x l) (h1 : ∀ v ∈ l, oneC v = true) (hl : l.length ≤ 16777216) :
    ∃ x' H', cK (.func (.func 38) [] []) [x] H = some (x', H') ∧ Ow H' 5 1 x' l ∧ Out [] H H' ∧ ∀ j ∈ rid x', H.next ≤ j := by
  have hgen : ∀ i off n cap ex, x = .slice i off n cap ex 1 → ∃ x' H', cK (.func (.func 38) [] []) [x] H = some (x', H') ∧ Ow H' 5 1 x' l ∧ Out [] H H' ∧ ∀ j ∈ rid x', H.next ≤ j := by
    intro i off n cap ex he
    subst he
    obtain ⟨H1, a1, a2, a3, a4⟩ := newCells_ok H [] 5 0 (by simp)
    have hx1 := hx.out a3 (fun j _ q => by cases q)
    obtain ⟨x', H', b1, b2, b3, b4⟩ := append_ok (H := H1) (el := 5) (es := 1) (z := [.int .u8 0]) (s := .slice H.next 0 0 0 true 1) (l := []) .emp hx1 h1 (by omega) (by simpa using hl)
    refine ⟨x', H', c_slices_Clone___byte_byte_ ?_, by simpa using b2, a3.then b3 (fun j hj => by cases hj), fun j hj => ?_⟩
    · unfold s_slices_Clone___byte_byte_
      simp only [gA_es, IFT_t, nilS_f Tryd.underlying22, fl_nil, a1, b1, JN_0, JN_1, JN_2, JN_3, JN_4, JN_5, JN_6, JN_7, JN_8, JN_9, JN_10, JN_11, JN_12, JN_13, JN_14, JN_15, JN_16, JN_17, JN_18, JN_19, JN_20, JN_21, JN_22, JN_23, JN_24, B1_s, B2_s, BN_s, CD_t, CD_f, GO_tt, GO_ft, GO_tf, GO_ff, GO_ut, GO_uf, GD2_tt, GD2_ft, GD2_tf, GD2_ff, pk_t, pk_f, nilA_p, nilA_i, fa_p, fd_a, ex_t, iadd_i, isub_i, imul_i, ieq_i, ine_i, ilt_i, ile_i, igt_i, ige_i, seq_s, sne_s, slt_s, lens_s, lenx_0, lenx_s, not_b, cv_i, pe_00, pe_0p, pe_p0, eqB_e, eqB_n, List.getElem?_cons_zero, List.getElem?_cons_succ, Nat.zero_add, Bool.not_true, Bool.not_false, decide_true, decide_false, Int.reduceBEq, Int.reduceBNe, Int.reduceLT, Int.reduceLE, Int.reduceGT, Int.reduceGE, Int.reduceNeg, BEq.rfl, bne_self_eq_false, ge_iff_le, gt_iff_lt]
    · rcases b4 j hj with q | q
      · cases q
      · omega
  cases hx with
  | nil =>
    refine ⟨.slice0, H, c_slices_Clone___byte_byte_ ?_, .nil, Out.refl _ _, fun j hj => by cases hj⟩
    unfold s_slices_Clone___byte_byte_
    simp only [gA_e0, IFT_t, nilS_t Tryd.underlying22, JN_0, JN_1, JN_2, JN_3, JN_4, JN_5, JN_6, JN_7, JN_8, JN_9, JN_10, JN_11, JN_12, JN_13, JN_14, JN_15, JN_16, JN_17, JN_18, JN_19, JN_20, JN_21, JN_22, JN_23, JN_24, B1_s, B2_s, BN_s, CD_t, CD_f, GO_tt, GO_ft, GO_tf, GO_ff, GO_ut, GO_uf, GD2_tt, GD2_ft, GD2_tf, GD2_ff, pk_t, pk_f, nilA_p, nilA_i, fa_p, fd_a, ex_t, iadd_i, isub_i, imul_i, ieq_i, ine_i, ilt_i, ile_i, igt_i, ige_i, seq_s, sne_s, slt_s, lens_s, lenx_0, lenx_s, not_b, cv_i, pe_00, pe_0p, pe_p0, eqB_e, eqB_n, List.getElem?_cons_zero, List.getElem?_cons_succ, Nat.zero_add, Bool.not_true, Bool.not_false, decide_true, decide_false, Int.reduceBEq, Int.reduceBNe, Int.reduceLT, Int.reduceLE, Int.reduceGT, Int.reduceGE, Int.reduceNeg, BEq.rfl, bne_self_eq_false, ge_iff_le, gt_iff_lt]
  | emp => exact hgen _ _ _ _ _ rfl
  | mk => exact hgen _ _ _ _ _ rfl
theorem clone_i {H : Hp} {x : AV} {l : List AV} (hx : Rw H 1 x l) (h1 : ∀ v ∈ l, oneC v = true) (hl : l.length ≤ 16777216) :
    ∃ x' H', cK (.func (.func 39) [] []) [x] H = some (x', H') ∧ Ow H' 3 1 x' l ∧ Out [] H H' ∧ ∀ j ∈ rid x', H.next ≤ j := by
  have hgen : ∀ i off n cap ex, x = .slice i off n cap ex 1 → ∃ x' H', cK (.func (.func 39) [] []) [x] H = some (x', H') ∧ Ow H' 3 1 x' l ∧ Out [] H H' ∧ ∀ j ∈ rid x', H.next ≤ j := by
    intro i off n cap ex he
    subst he
    obtain ⟨H1, a1, a2, a3, a4⟩ := newCells_ok H [] 3 0 (by simp)
    have hx1 := hx.out a3 (fun j _ q => by cases q)
    obtain ⟨x', H', b1, b2, b3, b4⟩ := append_ok (H := H1) (el := 3) (es := 1) (z := [.int .i64 0]) (s := .slice H.next 0 0 0 true 1) (l := []) .emp hx1 h1 (by omega) (by simpa using hl)
    refine ⟨x', H', c_slices_Clone___int_int_ ?_, by simpa using b2, a3.then b3 (fun j hj => by cases hj), fun j hj => ?_⟩
    · unfold s_slices_Clone___int_int_
      simp only [gA_es, IFT_t, nilS_f Tryd.underlying40, fl_nil, a1, b1, JN_0, JN_1, JN_2, JN_3, JN_4, JN_5, JN_6, JN_7, JN_8, JN_9, JN_10, JN_11, JN_12, JN_13, JN_14, JN_15, JN_16, JN_17, JN_18, JN_19, JN_20, JN_21, JN_22, JN_23, JN_24, B1_s, B2_s, BN_s, CD_t, CD_f, GO_tt, GO_ft, GO_tf, GO_ff, GO_ut, GO_uf, GD2_tt, GD2_ft, GD2_tf, GD2_ff, pk_t, pk_f, nilA_p, nilA_i, fa_p, fd_a, ex_t, iadd_i, isub_i, imul_i, ieq_i, ine_i, ilt_i, ile_i, igt_i, ige_i, seq_s, sne_s, slt_s, lens_s, lenx_0, lenx_s, not_b, cv_i, pe_00, pe_0p, pe_p0, eqB_e, eqB_n, List.getElem?_cons_zero, List.getElem?_cons_succ, Nat.zero_add, Bool.not_true, Bool.not_false, decide_true, decide_false, Int.reduceBEq, Int.reduceBNe, Int.reduceLT, Int.reduceLE, Int.reduceGT, Int.reduceGE, Int.reduceNeg, BEq.rfl, bne_self_eq_false, ge_iff_le, gt_iff_lt]
    · rcases b4 j hj with q | q
      · cases q
      · omega
  cases hx with
  | nil =>
    refine ⟨.slice0, H, c_slices_Clone___int_int_ ?_, .nil, Out.refl _ _, fun j hj => by cases hj⟩
    unfold s_slices_Clone___int_int_
    simp only [gA_e0, IFT_t, nilS_t Tryd.underlying40, JN_0, JN_1, JN_2, JN_3, JN_4, JN_5, JN_6, JN_7, JN_8, JN_9, JN_10, JN_11, JN_12, JN_13, JN_14, JN_15, JN_16, JN_17, JN_18, JN_19, JN_20, JN_21, JN_22, JN_23, JN_24, B1_s, B2_s, BN_s, CD_t, CD_f, GO_tt, GO_ft, GO_tf, GO_ff, GO_ut, GO_uf, GD2_tt, GD2_ft, GD2_tf, GD2_ff, pk_t, pk_f, nilA_p, nilA_i, fa_p, fd_a, ex_t, iadd_i, isub_i, imul_i, ieq_i, ine_i, ilt_i, ile_i, igt_i, ige_i, seq_s, sne_s, slt_s, lens_s, lenx_0, lenx_s, not_b, cv_i, pe_00, pe_0p, pe_p0, eqB_e, eqB_n, List.getElem?_cons_zero, List.getElem?_cons_succ, Nat.zero_add, Bool.not_true, Bool.not_false, decide_true, decide_false, Int.reduceBEq, Int.reduceBNe, Int.reduceLT, Int.reduceLE, Int.reduceGT, Int.reduceGE, Int.reduceNeg, BEq.rfl, bne_self_eq_false, ge_iff_le, gt_iff_lt]
  | emp => exact hgen _ _ _ _ _ rfl
  | mk => exact hgen _ _ _ _ _ rfl
section
variable {H : Hp} {p : Nat} {m : SM} {L : Lay}
theorem St.lookC (h : St H p m L) (at' : List Nat) : (fp L at' = .ptr0 ∧ look m at' = none ∧ ∀ x ∈ L.cs, x.f.nm ≠ at') ∨
    ∃ a x b, L.cs = a ++ x :: b ∧ x.f.nm = at' ∧ (∀ y ∈ a, y.f.nm ≠ at') ∧ (∀ y ∈ b, y.f.nm ≠ at') ∧ fp L at' = .ptr x.id 0 ∧ look m at' = some x.f := by
  rcases h.find at' with ⟨h1, h2, h3⟩ | ⟨a, x, b, h1, h2, h3, h4, h5, h6⟩
  · refine .inl ⟨h1, ?_, h3⟩
    unfold look
    rw [h.fs, List.find?_eq_none]
    intro f hf
    obtain ⟨x, hx, rfl⟩ := List.mem_map.1 hf
    simpa using h3 x hx
  · refine .inr ⟨a, x, b, h1, h2, h3, h4, h5, ?_⟩
    unfold look
    rw [h.fs, List.find?_eq_some_iff_append]
    exact ⟨by simpa using h2, a.map (·.f), b.map (·.f), by rw [h1, List.map_append, List.map_cons], fun f hf => by
      obtain ⟨y, hy, rfl⟩ := List.mem_map.1 hf
      simpa using h3 y hy⟩
theorem St.ld_map (h : St H p m L) : ld (.ptr p 1) H = some (.map L.mid) := h.head.ld (o := 1) rfl
theorem St.ld_off (h : St H p m L) : ld (.ptr p 2) H = some (.bool m.off) := h.head.ld (o := 2) rfl
theorem St.ld_fuse (h : St H p m L) : ld (.ptr p 3) H = some (.int .i64 m.fuse) := h.head.ld (o := 3) rfl
theorem St.ld_keep (h : St H p m L) : ld (.ptr p 4) H = some L.keep := h.head.ld (o := 4) rfl
theorem of_c (h : St H p m L) (at' : List Nat) : cK (.func (.func 36) [] []) [.ptr p 0, .str at'] H =
    some (.tuple [if m.off = true ∨ okName at' = false then .ptr0 else fp L at', .int .i64 (ofE m at')], H) := by
  refine c_store_Store_of ?_
  unfold s_store_Store_of
  have h1 := h.ld_map
  have h2 := h.ld_off
  have h3 := h.lkp at'
  have h4 := name_c at' H
  have h5 := h.pe0 at' H
  simp only [h1, h2, h3, h4, h5, JN_0, JN_1, JN_2, JN_3, JN_4, JN_5, JN_6, JN_7, JN_8, JN_9, JN_10, JN_11, JN_12, JN_13, JN_14, JN_15, JN_16, JN_17, JN_18, JN_19, JN_20, JN_21, JN_22, JN_23, JN_24, B1_s, B2_s, BN_s, CD_t, CD_f, GO_tt, GO_ft, GO_tf, GO_ff, GO_ut, GO_uf, GD2_tt, GD2_ft, GD2_tf, GD2_ff, pk_t, pk_f, nilA_p, nilA_i, fa_p, fd_a, ex_t, iadd_i, isub_i, imul_i, ieq_i, ine_i, ilt_i, ile_i, igt_i, ige_i, seq_s, sne_s, slt_s, lens_s, lenx_0, lenx_s, not_b, cv_i, pe_00, pe_0p, pe_p0, eqB_e, eqB_n, List.getElem?_cons_zero, List.getElem?_cons_succ, Nat.zero_add, Bool.not_true, Bool.not_false, decide_true, decide_false, Int.reduceBEq, Int.reduceBNe, Int.reduceLT, Int.reduceLE, Int.reduceGT, Int.reduceGE, Int.reduceNeg, BEq.rfl, bne_self_eq_false, ge_iff_le, gt_iff_lt]
  cases ho : m.off with
  | true => simp only [JN_0, JN_1, JN_2, JN_3, JN_4, JN_5, JN_6, JN_7, JN_8, JN_9, JN_10, JN_11, JN_12, JN_13, JN_14, JN_15, JN_16, JN_17, JN_18, JN_19, JN_20, JN_21, JN_22, JN_23, JN_24, B1_s, B2_s, BN_s, CD_t, CD_f, GO_tt, GO_ft, GO_tf, GO_ff, GO_ut, GO_uf, GD2_tt, GD2_ft, GD2_tf, GD2_ff, pk_t, pk_f, nilA_p, nilA_i, fa_p, fd_a, ex_t, iadd_i, isub_i, imul_i, ieq_i, ine_i, ilt_i, ile_i, igt_i, ige_i, seq_s, sne_s, slt_s, lens_s, lenx_0, lenx_s, not_b, cv_i, pe_00, pe_0p, pe_p0, eqB_e, eqB_n, List.getElem?_cons_zero, List.getElem?_cons_succ, Nat.zero_add, Bool.not_true, Bool.not_false, decide_true, decide_false, Int.reduceBEq, Int.reduceBNe, Int.reduceLT, Int.reduceLE, Int.reduceGT, Int.reduceGE, Int.reduceNeg, BEq.rfl, bne_self_eq_false, ge_iff_le, gt_iff_lt, true_or, if_true, ofE, ho]
  | false =>
    cases hk : okName at' with
    | false => simp only [JN_0, JN_1, JN_2, JN_3, JN_4, JN_5, JN_6, JN_7, JN_8, JN_9, JN_10, JN_11, JN_12, JN_13, JN_14, JN_15, JN_16, JN_17, JN_18, JN_19, JN_20, JN_21, JN_22, JN_23, JN_24, B1_s, B2_s, BN_s, CD_t, CD_f, GO_tt, GO_ft, GO_tf, GO_ff, GO_ut, GO_uf, GD2_tt, GD2_ft, GD2_tf, GD2_ff, pk_t, pk_f, nilA_p, nilA_i, fa_p, fd_a, ex_t, iadd_i, isub_i, imul_i, ieq_i, ine_i, ilt_i, ile_i, igt_i, ige_i, seq_s, sne_s, slt_s, lens_s, lenx_0, lenx_s, not_b, cv_i, pe_00, pe_0p, pe_p0, eqB_e, eqB_n, List.getElem?_cons_zero, List.getElem?_cons_succ, Nat.zero_add, Bool.not_true, Bool.not_false, decide_true, decide_false, Int.reduceBEq, Int.reduceBNe, Int.reduceLT, Int.reduceLE, Int.reduceGT, Int.reduceGE, Int.reduceNeg, BEq.rfl, bne_self_eq_false, ge_iff_le, gt_iff_lt, or_true, if_true, ofE, ho, hk, Bool.false_eq_true, if_false]
    | true =>
      simp only [JN_0, JN_1, JN_2, JN_3, JN_4, JN_5, JN_6, JN_7, JN_8, JN_9, JN_10, JN_11, JN_12, JN_13, JN_14, JN_15, JN_16, JN_17, JN_18, JN_19, JN_20, JN_21, JN_22, JN_23, JN_24, B1_s, B2_s, BN_s, CD_t, CD_f, GO_tt, GO_ft, GO_tf, GO_ff, GO_ut, GO_uf, GD2_tt, GD2_ft, GD2_tf, GD2_ff, pk_t, pk_f, nilA_p, nilA_i, fa_p, fd_a, ex_t, iadd_i, isub_i, imul_i, ieq_i, ine_i, ilt_i, ile_i, igt_i, ige_i, seq_s, sne_s, slt_s, lens_s, lenx_0, lenx_s, not_b, cv_i, pe_00, pe_0p, pe_p0, eqB_e, eqB_n, List.getElem?_cons_zero, List.getElem?_cons_succ, Nat.zero_add, Bool.not_true, Bool.not_false, decide_true, decide_false, Int.reduceBEq, Int.reduceBNe, Int.reduceLT, Int.reduceLE, Int.reduceGT, Int.reduceGE, Int.reduceNeg, BEq.rfl, bne_self_eq_false, ge_iff_le, gt_iff_lt, or_self, if_false, ofE, ho, hk, Bool.false_eq_true, Bool.true_eq_false]
      rcases h.find at' with ⟨q1, q2, q3⟩ | ⟨a, x, b, q1, q2, q3, q4, q5, q6⟩ <;> rcases h.lookC at' with ⟨r1, r2, r3⟩ | ⟨a', x', b', r1, r2, r3, r4, r5, r6⟩
      · simp only [q1, q2, r2, JN_0, JN_1, JN_2, JN_3, JN_4, JN_5, JN_6, JN_7, JN_8, JN_9, JN_10, JN_11, JN_12, JN_13, JN_14, JN_15, JN_16, JN_17, JN_18, JN_19, JN_20, JN_21, JN_22, JN_23, JN_24, B1_s, B2_s, BN_s, CD_t, CD_f, GO_tt, GO_ft, GO_tf, GO_ff, GO_ut, GO_uf, GD2_tt, GD2_ft, GD2_tf, GD2_ff, pk_t, pk_f, nilA_p, nilA_i, fa_p, fd_a, ex_t, iadd_i, isub_i, imul_i, ieq_i, ine_i, ilt_i, ile_i, igt_i, ige_i, seq_s, sne_s, slt_s, lens_s, lenx_0, lenx_s, not_b, cv_i, pe_00, pe_0p, pe_p0, eqB_e, eqB_n, List.getElem?_cons_zero, List.getElem?_cons_succ, Nat.zero_add, Bool.not_true, Bool.not_false, decide_true, decide_false, Int.reduceBEq, Int.reduceBNe, Int.reduceLT, Int.reduceLE, Int.reduceGT, Int.reduceGE, Int.reduceNeg, BEq.rfl, bne_self_eq_false, ge_iff_le, gt_iff_lt, Option.isNone_none, if_true]
      · exact absurd r2 (q3 x' (by rw [r1]; simp))
      · exact absurd q2 (r3 x (by rw [q1]; simp))
      · simp only [q5, q6, r6, JN_0, JN_1, JN_2, JN_3, JN_4, JN_5, JN_6, JN_7, JN_8, JN_9, JN_10, JN_11, JN_12, JN_13, JN_14, JN_15, JN_16, JN_17, JN_18, JN_19, JN_20, JN_21, JN_22, JN_23, JN_24, B1_s, B2_s, BN_s, CD_t, CD_f, GO_tt, GO_ft, GO_tf, GO_ff, GO_ut, GO_uf, GD2_tt, GD2_ft, GD2_tf, GD2_ff, pk_t, pk_f, nilA_p, nilA_i, fa_p, fd_a, ex_t, iadd_i, isub_i, imul_i, ieq_i, ine_i, ilt_i, ile_i, igt_i, ige_i, seq_s, sne_s, slt_s, lens_s, lenx_0, lenx_s, not_b, cv_i, pe_00, pe_0p, pe_p0, eqB_e, eqB_n, List.getElem?_cons_zero, List.getElem?_cons_succ, Nat.zero_add, Bool.not_true, Bool.not_false, decide_true, decide_false, Int.reduceBEq, Int.reduceBNe, Int.reduceLT, Int.reduceLE, Int.reduceGT, Int.reduceGE, Int.reduceNeg, BEq.rfl, bne_self_eq_false, ge_iff_le, gt_iff_lt, Option.isNone_some, if_false, Bool.false_eq_true]
end
section
variable {H : Hp} {p : Nat} {m : SM} {L : Lay}
theorem nil_sub (S : List Nat) : ∀ j ∈ ([] : List Nat), j ∈ S := fun j hj => by cases hj
theorem on_c (h : St H p m L) : ∃ H', cK (.func (.func 14) [] []) [.ptr p 0] H = some (.tuple [], H') ∧ St H' p { m with off := false } L ∧ Go' p H L H' L := by
  obtain ⟨H', h1, h2, h3, h4⟩ := h.head.st (o := 2) (v := .bool false) (by simp) rfl
  have hk := h.keep.out h3 fun j hj q => by
    have hnd := h.nd
    unfold foot at hnd
    rw [List.nodup_cons] at hnd
    simp only [List.mem_singleton] at q
    exact hnd.1 (q ▸ .tail _ (List.mem_append_left _ hj))
  obtain ⟨q1, q2⟩ := h.setHead (off := false) (fuse := m.fuse) (keep := L.keep) (kl := m.keep) h2 h.ok.fuse h3 (fun j hj => .inl (by simpa using hj)) hk (fun j hj => .inl hj) (rid_nd _)
  refine ⟨H', c_store_Store_On ?_, q1, q2⟩
  unfold s_store_Store_On
  simp only [h1, JN_0, JN_1, JN_2, JN_3, JN_4, JN_5, JN_6, JN_7, JN_8, JN_9, JN_10, JN_11, JN_12, JN_13, JN_14, JN_15, JN_16, JN_17, JN_18, JN_19, JN_20, JN_21, JN_22, JN_23, JN_24, B1_s, B2_s, BN_s, CD_t, CD_f, GO_tt, GO_ft, GO_tf, GO_ff, GO_ut, GO_uf, GD2_tt, GD2_ft, GD2_tf, GD2_ff, pk_t, pk_f, nilA_p, nilA_i, fa_p, fd_a, ex_t, iadd_i, isub_i, imul_i, ieq_i, ine_i, ilt_i, ile_i, igt_i, ige_i, seq_s, sne_s, slt_s, lens_s, lenx_0, lenx_s, not_b, cv_i, pe_00, pe_0p, pe_p0, eqB_e, eqB_n, List.getElem?_cons_zero, List.getElem?_cons_succ, Nat.zero_add, Bool.not_true, Bool.not_false, decide_true, decide_false, Int.reduceBEq, Int.reduceBNe, Int.reduceLT, Int.reduceLE, Int.reduceGT, Int.reduceGE, Int.reduceNeg, BEq.rfl, bne_self_eq_false, ge_iff_le, gt_iff_lt]
theorem off_c (h : St H p m L) : cK (.func (.func 23) [] []) [.ptr p 0] H = some (.bool m.off, H) := by
  refine c_store_Store_Off ?_
  unfold s_store_Store_Off
  simp only [h.ld_off, JN_0, JN_1, JN_2, JN_3, JN_4, JN_5, JN_6, JN_7, JN_8, JN_9, JN_10, JN_11, JN_12, JN_13, JN_14, JN_15, JN_16, JN_17, JN_18, JN_19, JN_20, JN_21, JN_22, JN_23, JN_24, B1_s, B2_s, BN_s, CD_t, CD_f, GO_tt, GO_ft, GO_tf, GO_ff, GO_ut, GO_uf, GD2_tt, GD2_ft, GD2_tf, GD2_ff, pk_t, pk_f, nilA_p, nilA_i, fa_p, fd_a, ex_t, iadd_i, isub_i, imul_i, ieq_i, ine_i, ilt_i, ile_i, igt_i, ige_i, seq_s, sne_s, slt_s, lens_s, lenx_0, lenx_s, not_b, cv_i, pe_00, pe_0p, pe_p0, eqB_e, eqB_n, List.getElem?_cons_zero, List.getElem?_cons_succ, Nat.zero_add, Bool.not_true, Bool.not_false, decide_true, decide_false, Int.reduceBEq, Int.reduceBNe, Int.reduceLT, Int.reduceLE, Int.reduceGT, Int.reduceGE, Int.reduceNeg, BEq.rfl, bne_self_eq_false, ge_iff_le, gt_iff_lt]
def sureM (m : SM) (at' : List Nat) : Nat := match look m at' with | some f => f.sure | none => 0
theorem sure_c (h : St H p m L) (at' : List Nat) : cK (.func (.func 16) [] []) [.ptr p 0, .str at'] H = some (.int .i64 (sureM m at'), H) := by
  refine c_store_Store_Sure ?_
  unfold s_store_Store_Sure sureM
  have h1 := h.ld_map
  have h2 := h.lkp at'
  rcases h.lookC at' with ⟨r1, r2, r3⟩ | ⟨a, x, b, r1, r2, r3, r4, r5, r6⟩
  · simp only [h1, h2, r1, r2, JN_0, JN_1, JN_2, JN_3, JN_4, JN_5, JN_6, JN_7, JN_8, JN_9, JN_10, JN_11, JN_12, JN_13, JN_14, JN_15, JN_16, JN_17, JN_18, JN_19, JN_20, JN_21, JN_22, JN_23, JN_24, B1_s, B2_s, BN_s, CD_t, CD_f, GO_tt, GO_ft, GO_tf, GO_ff, GO_ut, GO_uf, GD2_tt, GD2_ft, GD2_tf, GD2_ff, pk_t, pk_f, nilA_p, nilA_i, fa_p, fd_a, ex_t, iadd_i, isub_i, imul_i, ieq_i, ine_i, ilt_i, ile_i, igt_i, ige_i, seq_s, sne_s, slt_s, lens_s, lenx_0, lenx_s, not_b, cv_i, pe_00, pe_0p, pe_p0, eqB_e, eqB_n, List.getElem?_cons_zero, List.getElem?_cons_succ, Nat.zero_add, Bool.not_true, Bool.not_false, decide_true, decide_false, Int.reduceBEq, Int.reduceBNe, Int.reduceLT, Int.reduceLE, Int.reduceGT, Int.reduceGE, Int.reduceNeg, BEq.rfl, bne_self_eq_false, ge_iff_le, gt_iff_lt]; rfl
  · have h3 := (h.file x (by rw [r1]; simp)).1.ld (o := 1) rfl
    simp only [h1, h2, r5, r6, h3, JN_0, JN_1, JN_2, JN_3, JN_4, JN_5, JN_6, JN_7, JN_8, JN_9, JN_10, JN_11, JN_12, JN_13, JN_14, JN_15, JN_16, JN_17, JN_18, JN_19, JN_20, JN_21, JN_22, JN_23, JN_24, B1_s, B2_s, BN_s, CD_t, CD_f, GO_tt, GO_ft, GO_tf, GO_ff, GO_ut, GO_uf, GD2_tt, GD2_ft, GD2_tf, GD2_ff, pk_t, pk_f, nilA_p, nilA_i, fa_p, fd_a, ex_t, iadd_i, isub_i, imul_i, ieq_i, ine_i, ilt_i, ile_i, igt_i, ige_i, seq_s, sne_s, slt_s, lens_s, lenx_0, lenx_s, not_b, cv_i, pe_00, pe_0p, pe_p0, eqB_e, eqB_n, List.getElem?_cons_zero, List.getElem?_cons_succ, Nat.zero_add, Bool.not_true, Bool.not_false, decide_true, decide_false, Int.reduceBEq, Int.reduceBNe, Int.reduceLT, Int.reduceLE, Int.reduceGT, Int.reduceGE, Int.reduceNeg, BEq.rfl, bne_self_eq_false, ge_iff_le, gt_iff_lt]
noncomputable def readM (m : SM) (at' : List Nat) : List Nat := if ofE m at' = 0 then (match look m at' with | some f => f.b | none => []) else []
theorem ofE_cases (m : SM) (at' : List Nat) : (ofE m at' = 11 ∧ m.off = true) ∨ (ofE m at' = 1 ∧ m.off = false ∧ okName at' = false) ∨ (ofE m at' = 4 ∧ m.off = false ∧ okName at' = true ∧ look m at' = none) ∨
    (ofE m at' = 0 ∧ m.off = false ∧ okName at' = true ∧ ∃ f, look m at' = some f) := by
  unfold ofE
  cases ho : m.off with
  | true => exact .inl ⟨by simp, rfl⟩
  | false =>
    cases hk : okName at' with
    | false => exact .inr (.inl ⟨by simp, rfl, rfl⟩)
    | true =>
      cases hl : look m at' with
      | none => exact .inr (.inr (.inl ⟨by simp, rfl, rfl, rfl⟩))
      | some f => exact .inr (.inr (.inr ⟨by simp, rfl, rfl, f, rfl⟩))
/-- the file that is told, where there is one -/
theorem St.ofP (h : St H p m L) {at' : List Nat} (he : ofE m at' = 0) : m.off = false ∧ okName at' = true ∧ ∃ a x b, L.cs = a ++ x :: b ∧ x.f.nm = at' ∧ (∀ y ∈ a, y.f.nm ≠ at') ∧ (∀ y ∈ b, y.f.nm ≠ at') ∧ fp L at' = .ptr x.id 0 ∧ look m at' = some x.f ∧ x ∈ L.cs ∧ x.f ∈ m.fs := by
  rcases ofE_cases m at' with ⟨q, _⟩ | ⟨q, _⟩ | ⟨q, _⟩ | ⟨_, q1, q2, f, q3⟩
  · rw [he] at q; cases q
  · rw [he] at q; cases q
  · rw [he] at q; cases q
  · rcases h.lookC at' with ⟨r1, r2, r3⟩ | ⟨a, x, b, r1, r2, r3, r4, r5, r6⟩
    · rw [r2] at q3; cases q3
    · have hx : x ∈ L.cs := by rw [r1]; simp
      exact ⟨q1, q2, a, x, b, r1, r2, r3, r4, r5, r6, hx, by rw [h.fs]; exact List.mem_map.2 ⟨x, hx, rfl⟩⟩
theorem len_le {f : Fl} {fs : List Fl} (hf : f ∈ fs) : f.b.length ≤ sumB fs := by
  induction fs with
  | nil => cases hf
  | cons g fs ih =>
    have e : sumB (g :: fs) = g.b.length + sumB fs := by unfold sumB; rw [List.map_cons, List.sum_cons]
    rw [e]
    rcases List.mem_cons.1 hf with rfl | hf
    · omega
    · have := ih hf; omega
theorem read_c (h : St H p m L) (at' : List Nat) : ∃ x' H', cK (.func (.func 15) [] []) [.ptr p 0, .str at'] H = some (.tuple [x', .int .i64 (ofE m at')], H') ∧
    Rw H' 1 x' (bs (readM m at')) ∧ Out [] H H' ∧ ∀ j ∈ rid x', H.next ≤ j := by
  have h0 := of_c h at'
  by_cases he : ofE m at' = 0
  · obtain ⟨q1, q2, a, x, b, r1, r2, r3, r4, r5, r6, hx, hf⟩ := h.ofP he
    obtain ⟨hf1, hf2⟩ := h.file x hx
    have hl := hf1.ld (o := 0) rfl
    have hb : (bs x.f.b).length ≤ 16777216 := by
      rw [bs_len]
      have := len_le hf; have := h.ok.sum; have := h.ok.room; omega
    obtain ⟨x', H', c1, c2, c3, c4⟩ := clone_b hf2.rw (bs_one _) hb
    refine ⟨x', H', c_store_Store_Read ?_, ?_, c3, c4⟩
    · unfold s_store_Store_Read
      simp only [h0, he, q1, q2, r5, hl, c1, Bool.false_eq_true, Bool.true_eq_false, or_self, if_false, JN_0, JN_1, JN_2, JN_3, JN_4, JN_5, JN_6, JN_7, JN_8, JN_9, JN_10, JN_11, JN_12, JN_13, JN_14, JN_15, JN_16, JN_17, JN_18, JN_19, JN_20, JN_21, JN_22, JN_23, JN_24, B1_s, B2_s, BN_s, CD_t, CD_f, GO_tt, GO_ft, GO_tf, GO_ff, GO_ut, GO_uf, GD2_tt, GD2_ft, GD2_tf, GD2_ff, pk_t, pk_f, nilA_p, nilA_i, fa_p, fd_a, ex_t, iadd_i, isub_i, imul_i, ieq_i, ine_i, ilt_i, ile_i, igt_i, ige_i, seq_s, sne_s, slt_s, lens_s, lenx_0, lenx_s, not_b, cv_i, pe_00, pe_0p, pe_p0, eqB_e, eqB_n, List.getElem?_cons_zero, List.getElem?_cons_succ, Nat.zero_add, Bool.not_true, Bool.not_false, decide_true, decide_false, Int.reduceBEq, Int.reduceBNe, Int.reduceLT, Int.reduceLE, Int.reduceGT, Int.reduceGE, Int.reduceNeg, BEq.rfl, bne_self_eq_false, ge_iff_le, gt_iff_lt]
    · unfold readM
      rw [if_pos he, r6]; exact c2.rw
  · refine ⟨.slice0, H, c_store_Store_Read ?_, ?_, Out.refl _ _, fun j hj => by cases hj⟩
    · unfold s_store_Store_Read
      have : (ofE m at' != 0) = true := by simpa using he
      simp only [h0, this, JN_0, JN_1, JN_2, JN_3, JN_4, JN_5, JN_6, JN_7, JN_8, JN_9, JN_10, JN_11, JN_12, JN_13, JN_14, JN_15, JN_16, JN_17, JN_18, JN_19, JN_20, JN_21, JN_22, JN_23, JN_24, B1_s, B2_s, BN_s, CD_t, CD_f, GO_tt, GO_ft, GO_tf, GO_ff, GO_ut, GO_uf, GD2_tt, GD2_ft, GD2_tf, GD2_ff, pk_t, pk_f, nilA_p, nilA_i, fa_p, fd_a, ex_t, iadd_i, isub_i, imul_i, ieq_i, ine_i, ilt_i, ile_i, igt_i, ige_i, seq_s, sne_s, slt_s, lens_s, lenx_0, lenx_s, not_b, cv_i, pe_00, pe_0p, pe_p0, eqB_e, eqB_n, List.getElem?_cons_zero, List.getElem?_cons_succ, Nat.zero_add, Bool.not_true, Bool.not_false, decide_true, decide_false, Int.reduceBEq, Int.reduceBNe, Int.reduceLT, Int.reduceLE, Int.reduceGT, Int.reduceGE, Int.reduceNeg, BEq.rfl, bne_self_eq_false, ge_iff_le, gt_iff_lt]
    · unfold readM
      rw [if_neg he]; exact .nil
/-- what a fuse is -/
def fuseM (m : SM) (calls : Int) (kl : List Int) : SM := if m.off = true then m else { m with fuse := calls.toNat, keep := kl }
theorem ints_one (l : List Int) : ∀ v ∈ ints l, oneC v = true := by
  intro v hv
  obtain ⟨z, _, rfl⟩ := List.mem_map.1 hv
  rfl
theorem fuse_c (h : St H p m L) {calls : Int} {x : AV} {kl : List Int} (hc : calls ≤ 9223372036854775807) (hx : Rw H 1 x (ints kl)) (hxd : ∀ j ∈ rid x, j ∉ foot p L) (hlen : kl.length ≤ 16777216) :
    ∃ H' L', cK (.func (.func 19) [] []) [.ptr p 0, .int .i64 calls, x] H = some (.tuple [], H') ∧ St H' p (fuseM m calls kl) L' ∧ Go' p H L H' L' := by
  have h2 := h.ld_off
  cases ho : m.off with
  | true =>
    rw [ho] at h2
    refine ⟨H, L, c_store_Store_Fuse ?_, by unfold fuseM; rw [if_pos ho]; exact h, Go'.refl _ _ _⟩
    unfold s_store_Store_Fuse
    simp only [h2, JN_0, JN_1, JN_2, JN_3, JN_4, JN_5, JN_6, JN_7, JN_8, JN_9, JN_10, JN_11, JN_12, JN_13, JN_14, JN_15, JN_16, JN_17, JN_18, JN_19, JN_20, JN_21, JN_22, JN_23, JN_24, B1_s, B2_s, BN_s, CD_t, CD_f, GO_tt, GO_ft, GO_tf, GO_ff, GO_ut, GO_uf, GD2_tt, GD2_ft, GD2_tf, GD2_ff, pk_t, pk_f, nilA_p, nilA_i, fa_p, fd_a, ex_t, iadd_i, isub_i, imul_i, ieq_i, ine_i, ilt_i, ile_i, igt_i, ige_i, seq_s, sne_s, slt_s, lens_s, lenx_0, lenx_s, not_b, cv_i, pe_00, pe_0p, pe_p0, eqB_e, eqB_n, List.getElem?_cons_zero, List.getElem?_cons_succ, Nat.zero_add, Bool.not_true, Bool.not_false, decide_true, decide_false, Int.reduceBEq, Int.reduceBNe, Int.reduceLT, Int.reduceLE, Int.reduceGT, Int.reduceGE, Int.reduceNeg, BEq.rfl, bne_self_eq_false, ge_iff_le, gt_iff_lt]
  | false =>
    rw [ho] at h2
    obtain ⟨H1, a1, a2, a3, a4⟩ := h.head.st (o := 3) (v := .int .i64 calls.toNat) (by simp) rfl
    have hp : p ∈ foot p L := St.mem_p
    have hx1 := hx.out a3 fun j hj q => hxd j hj (by rw [List.mem_singleton.1 q]; exact hp)
    obtain ⟨x', H2, b1, b2, b3, b4⟩ := clone_i hx1 (ints_one kl) (by unfold ints; rw [List.length_map]; exact hlen)
    have hh2 := a2.out b3 (fun q => by cases q)
    obtain ⟨H3, c1, c2, c3, c4⟩ := hh2.st (o := 4) (v := x') (by simp) (rw_one b2.rw)
    have hplt := h.head.lt
    have hb2 : Rw H3 1 x' (ints kl) := b2.rw.out c3 fun j hj q => by
      have := b4 j hj
      rw [List.mem_singleton.1 q] at this
      have := a3.1; omega
    have ho : Out [p] H H3 := (a3.trans (b3.mono (fun j hj => by cases hj))).trans c3
    obtain ⟨q1, q2⟩ := h.setHead (off := false) (fuse := calls.toNat) (keep := x') (kl := kl) (by simpa [ho, ‹m.off = false›] using c2) (by omega) ho (fun j hj => .inl (by simpa using hj)) hb2 (fun j hj => .inr (Nat.le_trans a3.1 (b4 j hj))) (rid_nd _)
    refine ⟨H3, _, c_store_Store_Fuse ?_, ?_, q2⟩
    · unfold s_store_Store_Fuse
      have hm : (if calls < 0 then (0 : Int) else calls) = (calls.toNat : Int) := by split <;> omega
      simp only [h2, max_i, hm, a1, b1, c1, JN_0, JN_1, JN_2, JN_3, JN_4, JN_5, JN_6, JN_7, JN_8, JN_9, JN_10, JN_11, JN_12, JN_13, JN_14, JN_15, JN_16, JN_17, JN_18, JN_19, JN_20, JN_21, JN_22, JN_23, JN_24, B1_s, B2_s, BN_s, CD_t, CD_f, GO_tt, GO_ft, GO_tf, GO_ff, GO_ut, GO_uf, GD2_tt, GD2_ft, GD2_tf, GD2_ff, pk_t, pk_f, nilA_p, nilA_i, fa_p, fd_a, ex_t, iadd_i, isub_i, imul_i, ieq_i, ine_i, ilt_i, ile_i, igt_i, ige_i, seq_s, sne_s, slt_s, lens_s, lenx_0, lenx_s, not_b, cv_i, pe_00, pe_0p, pe_p0, eqB_e, eqB_n, List.getElem?_cons_zero, List.getElem?_cons_succ, Nat.zero_add, Bool.not_true, Bool.not_false, decide_true, decide_false, Int.reduceBEq, Int.reduceBNe, Int.reduceLT, Int.reduceLE, Int.reduceGT, Int.reduceGE, Int.reduceNeg, BEq.rfl, bne_self_eq_false, ge_iff_le, gt_iff_lt]
    · unfold fuseM
      rw [if_neg (by rw [‹m.off = false›]; simp)]
      have : { m with off := false, fuse := calls.toNat, keep := kl } = { m with fuse := calls.toNat, keep := kl } := by rw [← ‹m.off = false›]
      rw [← this]; exact q1
end
section
variable {H : Hp} {p : Nat} {m : SM} {L : Lay}
theorem St.id_nd (h : St H p m L) {x : FC} (hx : x ∈ L.cs) : x.id ∉ rid x.sl := by
  have hnd := h.nd
  unfold foot at hnd
  rw [List.nodup_cons, List.nodup_cons, List.nodup_append] at hnd
  obtain ⟨a, b, hL⟩ := List.append_of_mem hx
  have h1 := hnd.2.2.2.1
  rw [hL, List.flatMap_append, List.flatMap_cons, List.nodup_append, List.nodup_append] at h1
  have h2 : (x.id :: rid x.sl).Nodup := h1.2.1.1
  exact (List.nodup_cons.1 h2).1
/-- a file's row anew -/
theorem St.put0 (h : St H p m L) {x : FC} (hx : x ∈ L.cs) {H0 : Hp} {sl : AV} {b : List Nat} (ho : Out (rid x.sl) H H0) (hw : Ow H0 5 1 sl (bs b)) (hr : ∀ j ∈ rid sl, j ∈ rid x.sl ∨ H.next ≤ j) :
    ∃ H1, st 1 (.ptr x.id 0) sl H0 = some H1 ∧ C0 H1 x.id [sl, .int .i64 x.f.sure] ∧ Out x.ids H H1 ∧ Ow H1 5 1 sl (bs b) := by
  have hid := h.id_nd hx
  have hc := (h.file x hx).1.out ho hid
  obtain ⟨H1, h1, h2, h3, h4⟩ := hc.st (o := 0) (v := sl) (by simp) (rw_one hw.rw)
  have hlt := (h.file x hx).1.lt
  refine ⟨H1, h1, h2, (ho.mono fun j hj => List.mem_cons_of_mem _ hj).trans (h3.mono fun j hj => by rw [List.mem_singleton.1 hj]; exact .head _), hw.out h3 fun j hj q => ?_⟩
  rw [List.mem_singleton.1 q] at hj
  rcases hr _ hj with q | q
  · exact hid q
  · omega
/-- how far a file is sure, anew -/
theorem put1 {i : Nat} {sl : AV} {s t : Int} {b : List Nat} {H1 : Hp} (hc : C0 H1 i [sl, .int .i64 s]) (hw : Ow H1 5 1 sl (bs b)) (hi : i ∉ rid sl) :
    ∃ H2, st 1 (.ptr i 1) (.int .i64 t) H1 = some H2 ∧ C0 H2 i [sl, .int .i64 t] ∧ Out [i] H1 H2 ∧ Ow H2 5 1 sl (bs b) := by
  obtain ⟨H2, h1, h2, h3, h4⟩ := hc.st (o := 1) (v := .int .i64 t) (by simp) rfl
  exact ⟨H2, h1, h2, h3, hw.out h3 fun j hj q => hi (by rw [List.mem_singleton.1 q] at hj; exact hj)⟩
theorem sumB_app (a b : List Fl) : sumB (a ++ b) = sumB a + sumB b := by unfold sumB; rw [List.map_append, List.sum_append]
theorem sumB_cons (f : Fl) (b : List Fl) : sumB (f :: b) = f.b.length + sumB b := by unfold sumB; rw [List.map_cons, List.sum_cons]
theorem St.sum_set (h : St H p m L) {a b : List FC} {x : FC} (hL : L.cs = a ++ x :: b) (ha : ∀ y ∈ a, y.f.nm ≠ x.f.nm) (hb : ∀ y ∈ b, y.f.nm ≠ x.f.nm) (f : Fl) : sumB (setF x.f.nm f m.fs) + x.f.b.length = sumB m.fs + f.b.length := by
  rw [h.fs, hL, setF_split rfl ha hb, List.map_append, List.map_cons, sumB_app, sumB_app, sumB_cons, sumB_cons]
  omega
/-- nothing but files' objects -/
def inF (L : Lay) (j : Nat) : Prop := ∃ y ∈ L.cs, j ∈ y.ids
/-- a file is cut -/
def cutTo (f : Fl) (n : Nat) : Fl := ⟨f.nm, f.b.take n, n⟩
theorem bs_take (l : List Nat) (n : Nat) : bs (l.take n) = (bs l).take n := by unfold bs; rw [List.map_take]
theorem St.cut (h : St H p m L) {a b : List FC} {x : FC} (hL : L.cs = a ++ x :: b) (ha : ∀ y ∈ a, y.f.nm ≠ x.f.nm) (hb : ∀ y ∈ b, y.f.nm ≠ x.f.nm) {n s : Nat} (hn : n ≤ x.f.b.length) (hs : s ≤ n) :
    ∃ sl H1 H2 L', sll 1 x.sl none (some (.int .i64 n)) none = some sl ∧ st 1 (.ptr x.id 0) sl H = some H1 ∧ ld (.ptr x.id 0) H1 = some sl ∧ ld (.ptr x.id 1) H1 = some (.int .i64 x.f.sure) ∧ lenx sl = some (.int .i64 n) ∧ st 1 (.ptr x.id 1) (.int .i64 s) H1 = some H2 ∧
      St H2 p { m with fs := setF x.f.nm ⟨x.f.nm, x.f.b.take n, s⟩ m.fs } L' ∧ Go' p H L H2 L' ∧ L'.keep = L.keep ∧ L'.mid = L.mid ∧ (∀ j, inF L' j → inF L j ∨ H.next ≤ j) ∧ Out x.ids H H2 := by
  have hx : x ∈ L.cs := by rw [hL]; simp
  obtain ⟨hf1, hf2⟩ := h.file x hx
  have hlen : (bs x.f.b).length = x.f.b.length * 1 := by rw [bs_len, Nat.mul_one]
  obtain ⟨sl, s1, s2, s3⟩ := sll_ow hf2 hlen (by omega) (a := 0) (b := n) (lo := none) (hi := some (.int .i64 n)) (Nat.zero_le _) hn (Bd.no 0) (Bd.yes _ _ _)
  rw [Nat.zero_mul, List.drop_zero, Nat.sub_zero, Nat.mul_one, ← bs_take] at s2
  obtain ⟨H1, p1, p2, p3, p4⟩ := h.put0 hx (Out.refl _ _) s2 fun j hj => .inl (s3 j hj)
  have hid : x.id ∉ rid sl := fun q => h.id_nd hx (s3 _ q)
  obtain ⟨H2, r1, r2, r3, r4⟩ := put1 (t := (s : Int)) p2 p4 hid
  have hout : Out x.ids H H2 := p3.trans (r3.mono fun j hj => by rw [List.mem_singleton.1 hj]; exact .head _)
  have hlen2 : (x.f.b.take n).length = n := by rw [List.length_take]; omega
  have hsum := h.sum_set hL ha hb ⟨x.f.nm, x.f.b.take n, s⟩
  have hfm : x.f ∈ m.fs := by rw [h.fs]; exact List.mem_map.2 ⟨x, hx, rfl⟩
  have hs0 := h.ok.sum
  obtain ⟨q1, q2⟩ := h.setFile (f := ⟨x.f.nm, x.f.b.take n, s⟩) hL ha hb rfl hout (fun j hj => hj) r2 r4 (fun j hj => .inl (s3 j hj)) (rid_nd _) (by simp only; omega) (fun c hc => h.ok.byte x.f hfm c (List.mem_of_mem_take hc))
    (by simp only at hsum ⊢; omega)
  refine ⟨sl, H1, H2, _, s1, p1, p2.ld rfl, p2.ld (o := 1) rfl, ?_, r1, q1, q2, rfl, rfl, fun j hj => ?_, hout⟩
  · have := s2.rw.len1
    rw [bs_len, hlen2] at this
    exact this
  · obtain ⟨y, hy, hj⟩ := hj
    rcases List.mem_append.1 hy with hy | hy
    · exact .inl ⟨y, by rw [hL]; exact List.mem_append_left _ hy, hj⟩
    · rcases List.mem_cons.1 hy with rfl | hy
      · refine .inl ⟨x, hx, ?_⟩
        rcases List.mem_cons.1 hj with rfl | hj
        · exact .head _
        · exact .tail _ (s3 j hj)
      · exact .inl ⟨y, by rw [hL]; exact List.mem_append_right _ (.tail _ hy), hj⟩
end

/-! a fall -/
def kn : List Int → Int
  | [] => 0
  | k :: _ => k
def crashF : List (List Nat) → List Int → List Fl → List Fl
  | [], _, fs => fs
  | n :: ns, keep, fs => match fs.find? (fun f => f.nm == n) with
    | none => fs
    | some f => if f.b.length = f.sure then crashF ns keep fs else crashF ns keep.tail (setF n (cutTo f (f.sure + min (kn keep).toNat (f.b.length - f.sure))) fs)
noncomputable def crashM (m : SM) (keep : List Int) : SM := if m.off = true then m else { m with off := true, fuse := 0, fs := crashF (names m) keep m.fs }
theorem find_setF {fs : List Fl} {n k : List Nat} {g : Fl} (hg : g.nm = n) (h : (fs.find? (fun f => f.nm == k)).isSome = true) : ((setF n g fs).find? (fun f => f.nm == k)).isSome = true := by
  rw [List.find?_isSome] at h ⊢
  obtain ⟨f, hf, he⟩ := h
  unfold setF
  refine ⟨if f.nm = n then g else f, List.mem_map.2 ⟨f, hf, rfl⟩, ?_⟩
  split
  · rename_i q; rw [hg, ← q]; exact he
  · exact he
theorem crash_loop (j7 : Am.K.Fn 1) (p : Nat) (x : AV) (all : List (List Nat)) (hall : all.length ≤ 1000000) : ∀ (rest : List (List Nat)) (i : Nat) (H : Hp) (m : SM) (L : Lay) (kv : AV) (kl : List Int), St H p m L → Rw H 1 x (strs all) → (∀ j ∈ rid x, ¬ inF L j) →
    i + rest.length = all.length → all.drop i = rest → Rw H 1 kv (ints kl) → (∀ j ∈ rid kv, ¬ inF L j) → (∀ n ∈ rest, (look m n).isSome = true) →
    ∃ H' L', l_store_Store_Crash JN GO cK j7 (.ptr p 0) kv x (.int .i64 all.length) (.int .i64 i) H = j7 (.ptr p 0) H' ∧ St H' p { m with fs := crashF rest kl m.fs } L' ∧ Go' p H L H' L' ∧ L'.keep = L.keep
  | [], i, H, m, L, kv, kl, h, hx, hxd, hi, hd, hk, hkd, hl => by
    refine ⟨H, L, ?_, h, Go'.refl _ _ _, rfl⟩
    rw [ql_store_Store_Crash]
    have : decide ((i : Int) < (all.length : Int)) = false := by simp only [List.length_nil] at hi; simp; omega
    simp only [this, JN_0, JN_1, JN_2, JN_3, JN_4, JN_5, JN_6, JN_7, JN_8, JN_9, JN_10, JN_11, JN_12, JN_13, JN_14, JN_15, JN_16, JN_17, JN_18, JN_19, JN_20, JN_21, JN_22, JN_23, JN_24, B1_s, B2_s, BN_s, CD_t, CD_f, GO_tt, GO_ft, GO_tf, GO_ff, GO_ut, GO_uf, GD2_tt, GD2_ft, GD2_tf, GD2_ff, pk_t, pk_f, nilA_p, nilA_i, fa_p, fd_a, ex_t, iadd_i, isub_i, imul_i, ieq_i, ine_i, ilt_i, ile_i, igt_i, ige_i, seq_s, sne_s, slt_s, lens_s, lenx_0, lenx_s, not_b, cv_i, pe_00, pe_0p, pe_p0, eqB_e, eqB_n, List.getElem?_cons_zero, List.getElem?_cons_succ, Nat.zero_add, Bool.not_true, Bool.not_false, decide_true, decide_false, Int.reduceBEq, Int.reduceBNe, Int.reduceLT, Int.reduceLE, Int.reduceGT, Int.reduceGE, Int.reduceNeg, BEq.rfl, bne_self_eq_false, ge_iff_le, gt_iff_lt]
  | n :: ns, i, H, m, L, kv, kl, h, hx, hxd, hi, hd, hk, hkd, hl => by
    simp only [List.length_cons] at hi
    have hlt : decide ((i : Int) < (all.length : Int)) = true := by simp; omega
    have hn : all[i]? = some n := by
      have := congrArg (fun l => l[0]?) hd
      simpa using this
    obtain ⟨q, hq1, hq2⟩ := hx.ia1 (i := i) (v := .str n) (by unfold strs; rw [List.getElem?_map, hn]; rfl) .i64
    have hd' : all.drop (i + 1) = ns := by
      have := congrArg (List.drop 1) hd
      rw [List.drop_drop] at this
      simpa using this
    have hw : IntKind.wrap .i64 ((i : Int) + 1) = ((i + 1 : Nat) : Int) := by rw [wrap_i64 (by omega) (by omega)]; omega
    have h1 := h.ld_map
    have h2 := h.lkp n
    have hln := hl n (.head _)
    rcases h.lookC n with ⟨r1, r2, r3⟩ | ⟨a, fc, b, r1, r2, r3, r4, r5, r6⟩
    · rw [r2] at hln; cases hln
    have hfx : fc ∈ L.cs := by rw [r1]; simp
    have hfm : fc.f ∈ m.fs := by rw [h.fs]; exact List.mem_map.2 ⟨fc, hfx, rfl⟩
    obtain ⟨hf1, hf2⟩ := h.file fc hfx
    have hld0 := hf1.ld (o := 0) rfl
    have hld1 := hf1.ld (o := 1) rfl
    have hlen := hf2.rw.len1
    rw [bs_len] at hlen
    have hsure := h.ok.sure _ hfm
    have hbig : fc.f.b.length ≤ 16777216 := by
      have := len_le hfm; have := h.ok.sum; have := h.ok.room; omega
    have hwr : IntKind.wrap .i64 ((fc.f.b.length : Int) - (fc.f.sure : Int)) = ((fc.f.b.length - fc.f.sure : Nat) : Int) := by rw [wrap_i64 (by omega) (by omega)]; omega
    rw [ql_store_Store_Crash]
    by_cases heq : fc.f.b.length = fc.f.sure
    · have hz : (((fc.f.b.length - fc.f.sure : Nat) : Int) == 0) = true := by rw [heq]; simp
      obtain ⟨H', L', e1, e2, e3, e4⟩ := crash_loop j7 p x all hall ns (i + 1) H m L kv kl h hx hxd (by omega) hd' hk hkd fun k hk => hl k (.tail _ hk)
      refine ⟨H', L', ?_, ?_, e3, e4⟩
      · simp only [hlt, hq1, hq2, h1, h2, r5, hld0, hld1, hlen, hwr, hz, hw, e1, JN_0, JN_1, JN_2, JN_3, JN_4, JN_5, JN_6, JN_7, JN_8, JN_9, JN_10, JN_11, JN_12, JN_13, JN_14, JN_15, JN_16, JN_17, JN_18, JN_19, JN_20, JN_21, JN_22, JN_23, JN_24, B1_s, B2_s, BN_s, CD_t, CD_f, GO_tt, GO_ft, GO_tf, GO_ff, GO_ut, GO_uf, GD2_tt, GD2_ft, GD2_tf, GD2_ff, pk_t, pk_f, nilA_p, nilA_i, fa_p, fd_a, ex_t, iadd_i, isub_i, imul_i, ieq_i, ine_i, ilt_i, ile_i, igt_i, ige_i, seq_s, sne_s, slt_s, lens_s, lenx_0, lenx_s, not_b, cv_i, pe_00, pe_0p, pe_p0, eqB_e, eqB_n, List.getElem?_cons_zero, List.getElem?_cons_succ, Nat.zero_add, Bool.not_true, Bool.not_false, decide_true, decide_false, Int.reduceBEq, Int.reduceBNe, Int.reduceLT, Int.reduceLE, Int.reduceGT, Int.reduceGE, Int.reduceNeg, BEq.rfl, bne_self_eq_false, ge_iff_le, gt_iff_lt]
      · have : crashF (n :: ns) kl m.fs = crashF ns kl m.fs := by
          show (match look m n with | none => m.fs | some f => _) = _
          rw [r6]; simp only; rw [if_pos heq]
        rw [this]; exact e2
    · have hz : (((fc.f.b.length - fc.f.sure : Nat) : Int) == 0) = false := by simp; omega
      obtain ⟨sl, H1, H2, L2, c1, c2, c3, c3', c4, c5, c6, c7, c8, c9, c10, c11⟩ := h.cut r1 (by rw [r2]; exact r3) (by rw [r2]; exact r4) (n := fc.f.sure + min (kn kl).toNat (fc.f.b.length - fc.f.sure)) (s := fc.f.sure + min (kn kl).toNat (fc.f.b.length - fc.f.sure)) (by omega) (Nat.le_refl _)
      have hwa : IntKind.wrap .i64 ((fc.f.sure : Int) + ((min (kn kl).toNat (fc.f.b.length - fc.f.sure) : Nat) : Int)) = ((fc.f.sure + min (kn kl).toNat (fc.f.b.length - fc.f.sure) : Nat) : Int) := by rw [wrap_i64 (by omega) (by omega)]; omega
      have hout : ∀ y : AV, (∀ j ∈ rid y, ¬ inF L j) → ∀ j ∈ rid y, j ∉ fc.ids := fun y hy j hj q => hy j hj ⟨fc, hfx, q⟩
      have hx2 := hx.out c11 (hout x hxd)
      have away : ∀ (y : AV) (l : List AV), Rw H 1 y l → (∀ j ∈ rid y, ¬ inF L j) → ∀ j ∈ rid y, ¬ inF L2 j := fun y l hy hyd j hj q => by
        rcases c10 j q with q | q
        · exact hyd j hj q
        · have := hy.lt j hj; omega
      have hl2 : ∀ k ∈ ns, (look { m with fs := setF fc.f.nm ⟨fc.f.nm, fc.f.b.take (fc.f.sure + min (kn kl).toNat (fc.f.b.length - fc.f.sure)), fc.f.sure + min (kn kl).toNat (fc.f.b.length - fc.f.sure)⟩ m.fs } k).isSome = true :=
        fun k hk => find_setF rfl (hl k (.tail _ hk))
      have hcf : crashF (n :: ns) kl m.fs = crashF ns kl.tail (setF fc.f.nm ⟨fc.f.nm, fc.f.b.take (fc.f.sure + min (kn kl).toNat (fc.f.b.length - fc.f.sure)), fc.f.sure + min (kn kl).toNat (fc.f.b.length - fc.f.sure)⟩ m.fs) := by
        show (match look m n with | none => m.fs | some f => _) = _
        rw [r6]; simp only; rw [if_neg heq, ← r2]; rfl
      cases kl with
      | nil =>
        have hk0 : lenx kv = some (.int .i64 0) := by
          have := hk.len1
          exact this
        obtain ⟨H', L', e1, e2, e3, e4⟩ := crash_loop j7 p x all hall ns (i + 1) H2 _ L2 kv [] c6 hx2 (away x _ hx hxd) (by omega) hd' (hk.out c11 (hout kv hkd)) (away kv _ hk hkd) hl2
        refine ⟨H', L', ?_, by rw [hcf]; exact e2, c7.trans e3, e4.trans c8⟩
        have hwa0 : IntKind.wrap .i64 ((fc.f.sure : Int) + 0) = ((fc.f.sure + min (kn []).toNat (fc.f.b.length - fc.f.sure) : Nat) : Int) := by rw [wrap_i64 (by omega) (by omega)]; simp [kn]
        have hf0 : decide ((0 : Int) < 0) = false := rfl
        simp only [hlt, hq1, hq2, h1, h2, r5, hld0, hld1, hlen, hwr, hz, hw, hk0, hf0, hwa0, c1, c2, c3, c4, c5, e1, JN_0, JN_1, JN_2, JN_3, JN_4, JN_5, JN_6, JN_7, JN_8, JN_9, JN_10, JN_11, JN_12, JN_13, JN_14, JN_15, JN_16, JN_17, JN_18, JN_19, JN_20, JN_21, JN_22, JN_23, JN_24, B1_s, B2_s, BN_s, CD_t, CD_f, GO_tt, GO_ft, GO_tf, GO_ff, GO_ut, GO_uf, GD2_tt, GD2_ft, GD2_tf, GD2_ff, pk_t, pk_f, nilA_p, nilA_i, fa_p, fd_a, ex_t, iadd_i, isub_i, imul_i, ieq_i, ine_i, ilt_i, ile_i, igt_i, ige_i, seq_s, sne_s, slt_s, lens_s, lenx_0, lenx_s, not_b, cv_i, pe_00, pe_0p, pe_p0, eqB_e, eqB_n, List.getElem?_cons_zero, List.getElem?_cons_succ, Nat.zero_add, Bool.not_true, Bool.not_false, decide_true, decide_false, Int.reduceBEq, Int.reduceBNe, Int.reduceLT, Int.reduceLE, Int.reduceGT, Int.reduceGE, Int.reduceNeg, BEq.rfl, bne_self_eq_false, ge_iff_le, gt_iff_lt]
      | cons k ks =>
        have hk1 : lenx kv = some (.int .i64 ((ks.length + 1 : Nat) : Int)) := by
          have := hk.len1
          unfold ints at this
          rw [List.length_map] at this
          exact this
        have hpos : decide ((0 : Int) < ((ks.length + 1 : Nat) : Int)) = true := decide_eq_true (by omega)
        obtain ⟨qk, hk2, hk3⟩ := hk.ia1 (i := 0) (v := .int .i64 k) rfl .i64
        have hkl : (ints (k :: ks)).length = (ks.length + 1) * 1 := by unfold ints; simp
        obtain ⟨kv', k1, k2, k3⟩ := sll_rw hk hkl (by omega) (a := 1) (b := ks.length + 1) (lo := some (.int .i64 1)) (hi := none) (by omega) (Nat.le_refl _) (Bd.yes .i64 1 0) (Bd.no _)
        have hkv' : Rw H 1 kv' (ints ks) := by
          have : ((ints (k :: ks)).drop (1 * 1)).take ((ks.length + 1 - 1) * 1) = ints ks := by
            unfold ints
            simp only [List.map_cons, Nat.mul_one, List.drop_succ_cons, List.drop_zero, Nat.add_sub_cancel]
            rw [List.take_of_length_le (by simp)]
          rw [this] at k2; exact k2
        have hkd' : ∀ j ∈ rid kv', ¬ inF L j := fun j hj => hkd j (k3 j hj)
        obtain ⟨H', L', e1, e2, e3, e4⟩ := crash_loop j7 p x all hall ns (i + 1) H2 _ L2 kv' ks c6 hx2 (away x _ hx hxd) (by omega) hd' (hkv'.out c11 (hout kv' hkd')) (away kv' _ hkv' hkd') hl2
        refine ⟨H', L', ?_, by rw [hcf]; exact e2, c7.trans e3, e4.trans c8⟩
        have hmx : (if ((if k < 0 then (0 : Int) else k)) > ((fc.f.b.length - fc.f.sure : Nat) : Int) then ((fc.f.b.length - fc.f.sure : Nat) : Int) else (if k < 0 then (0 : Int) else k)) = ((min (kn (k :: ks)).toNat (fc.f.b.length - fc.f.sure) : Nat) : Int) := by
          simp only [kn]
          split <;> split <;> omega
        simp only [gt_iff_lt] at hmx
        have hk2' : ia 1 kv (.int .i64 0) = some qk := hk2
        simp only [hlt, hq1, hq2, h1, h2, r5, hld0, hld1, hlen, hwr, hz, hw, hk1, hpos, hk2', hk3, max_i, min_i, hmx, k1, hwa, c1, c2, c3, c4, c5, e1, JN_0, JN_1, JN_2, JN_3, JN_4, JN_5, JN_6, JN_7, JN_8, JN_9, JN_10, JN_11, JN_12, JN_13, JN_14, JN_15, JN_16, JN_17, JN_18, JN_19, JN_20, JN_21, JN_22, JN_23, JN_24, B1_s, B2_s, BN_s, CD_t, CD_f, GO_tt, GO_ft, GO_tf, GO_ff, GO_ut, GO_uf, GD2_tt, GD2_ft, GD2_tf, GD2_ff, pk_t, pk_f, nilA_p, nilA_i, fa_p, fd_a, ex_t, iadd_i, isub_i, imul_i, ieq_i, ine_i, ilt_i, ile_i, igt_i, ige_i, seq_s, sne_s, slt_s, lens_s, lenx_0, lenx_s, not_b, cv_i, pe_00, pe_0p, pe_p0, eqB_e, eqB_n, List.getElem?_cons_zero, List.getElem?_cons_succ, Nat.zero_add, Bool.not_true, Bool.not_false, decide_true, decide_false, Int.reduceBEq, Int.reduceBNe, Int.reduceLT, Int.reduceLE, Int.reduceGT, Int.reduceGE, Int.reduceNeg, BEq.rfl, bne_self_eq_false, ge_iff_le, gt_iff_lt]
section
variable {H : Hp} {p : Nat} {m : SM} {L : Lay}
theorem St.notF (h : St H p m L) : ¬ inF L p ∧ ¬ inF L L.mid ∧ ∀ j ∈ rid L.keep, ¬ inF L j := by
  have hnd := h.nd
  unfold foot at hnd
  rw [List.nodup_cons, List.nodup_cons, List.nodup_append] at hnd
  obtain ⟨n1, n2, n3, n4, n5⟩ := hnd
  refine ⟨fun ⟨y, hy, hj⟩ => n1 (.tail _ (List.mem_append_right _ (List.mem_flatMap.2 ⟨y, hy, hj⟩))), fun ⟨y, hy, hj⟩ => n2 (List.mem_append_right _ (List.mem_flatMap.2 ⟨y, hy, hj⟩)), fun j hj ⟨y, hy, hk⟩ => n5 _ hj _ (List.mem_flatMap.2 ⟨y, hy, hk⟩) rfl⟩
theorem St.keep_p (h : St H p m L) : p ∉ rid L.keep := by
  have hnd := h.nd
  unfold foot at hnd
  rw [List.nodup_cons] at hnd
  exact fun q => hnd.1 (.tail _ (List.mem_append_left _ q))
theorem names_mem (h : St H p m L) : ∀ n ∈ names m, (look m n).isSome = true := by
  intro n hn
  unfold names at hn
  rw [sortN_mem] at hn
  obtain ⟨f, hf, rfl⟩ := List.mem_map.1 hn
  unfold look
  rw [List.find?_isSome]
  exact ⟨f, hf, by simp⟩
theorem crash_c (h : St H p m L) {kv : AV} {kl : List Int} (hk : Rw H 1 kv (ints kl)) (hkd : ∀ j ∈ rid kv, ¬ inF L j) :
    ∃ H' L', cK (.func (.func 13) [] []) [.ptr p 0, kv] H = some (.tuple [], H') ∧ St H' p (crashM m kl) L' ∧ Go' p H L H' L' := by
  have h2 := h.ld_off
  cases ho : m.off with
  | true =>
    rw [ho] at h2
    refine ⟨H, L, c_store_Store_Crash ?_, by unfold crashM; rw [if_pos ho]; exact h, Go'.refl _ _ _⟩
    unfold s_store_Store_Crash
    simp only [h2, JN_0, JN_1, JN_2, JN_3, JN_4, JN_5, JN_6, JN_7, JN_8, JN_9, JN_10, JN_11, JN_12, JN_13, JN_14, JN_15, JN_16, JN_17, JN_18, JN_19, JN_20, JN_21, JN_22, JN_23, JN_24, B1_s, B2_s, BN_s, CD_t, CD_f, GO_tt, GO_ft, GO_tf, GO_ff, GO_ut, GO_uf, GD2_tt, GD2_ft, GD2_tf, GD2_ff, pk_t, pk_f, nilA_p, nilA_i, fa_p, fd_a, ex_t, iadd_i, isub_i, imul_i, ieq_i, ine_i, ilt_i, ile_i, igt_i, ige_i, seq_s, sne_s, slt_s, lens_s, lenx_0, lenx_s, not_b, cv_i, pe_00, pe_0p, pe_p0, eqB_e, eqB_n, List.getElem?_cons_zero, List.getElem?_cons_succ, Nat.zero_add, Bool.not_true, Bool.not_false, decide_true, decide_false, Int.reduceBEq, Int.reduceBNe, Int.reduceLT, Int.reduceLE, Int.reduceGT, Int.reduceGE, Int.reduceNeg, BEq.rfl, bne_self_eq_false, ge_iff_le, gt_iff_lt]
  | false =>
    rw [ho] at h2
    obtain ⟨x, H1, n1, n2, n3, n4, n5⟩ := names_c h
    have h1 := h.out n3 fun j _ q => by cases q
    have hlt := h.lt
    have hnl : (names m).length ≤ 1000000 := by
      unfold names
      rw [sortN_len, List.length_map]
      have := h.ok.many; omega
    obtain ⟨H2, L2, e1, e2, e3, e4⟩ := crash_loop (fun x118 h119 =>
        B1 (nilA x118) fun v120 =>
        B1 (fa 2 v120) fun v121 =>
        B1 (st 1 v121 (.bool true) h119) fun h122 =>
        B1 (nilA x118) fun v123 =>
        B1 (fa 3 v123) fun v124 =>
        B1 (st 1 v124 (.int .i64 0) h122) fun h125 =>
        some (.tuple [], h125)) p x (names m) hnl (names m) 0 H1 m L kv kl h1 n2 (fun j hj ⟨y, hy, q⟩ => by
          have := n4 j hj
          have := hlt j (St.mem_file hy q); omega) (by simp) rfl (hk.out n3 fun j _ q => by cases q) hkd (names_mem h)
    obtain ⟨H3, a1, a2, a3, a4⟩ := e2.head.st (o := 2) (v := .bool true) (by simp) rfl
    obtain ⟨H4, b1, b2, b3, b4⟩ := a2.st (o := 3) (v := .int .i64 ((0 : Nat) : Int)) (by simp) rfl
    have ho2 : Out [p] H2 H4 := a3.trans b3
    have hk2 := e2.keep.out ho2 fun j hj q => e2.keep_p (by rw [List.mem_singleton.1 q] at hj; exact hj)
    obtain ⟨q1, q2⟩ := e2.setHead (off := true) (fuse := 0) (keep := L2.keep) (kl := m.keep) b2 (by omega) ho2 (fun j hj => .inl (by simpa using hj)) hk2 (fun j hj => .inl hj) (rid_nd _)
    have hgo : Go' p H L H1 L := ⟨n3.mono (fun j hj => by cases hj), fun j hj => .inl hj⟩
    refine ⟨H4, L2, c_store_Store_Crash ?_, ?_, (hgo.trans e3).trans q2⟩
    · unfold s_store_Store_Crash
      have b1' : st 1 (.ptr p 3) (.int .i64 0) H3 = some H4 := b1
      have e1' : l_store_Store_Crash JN GO cK (fun x118 h119 =>
        B1 (nilA x118) fun v120 =>
        B1 (fa 2 v120) fun v121 =>
        B1 (st 1 v121 (.bool true) h119) fun h122 =>
        B1 (nilA x118) fun v123 =>
        B1 (fa 3 v123) fun v124 =>
        B1 (st 1 v124 (.int .i64 0) h122) fun h125 =>
        some (.tuple [], h125)) (.ptr p 0) kv x (.int .i64 (names m).length) (.int .i64 0) H1 = some (.tuple [], H4) := by
        refine e1.trans ?_
        simp only [a1, b1', JN_0, JN_1, JN_2, JN_3, JN_4, JN_5, JN_6, JN_7, JN_8, JN_9, JN_10, JN_11, JN_12, JN_13, JN_14, JN_15, JN_16, JN_17, JN_18, JN_19, JN_20, JN_21, JN_22, JN_23, JN_24, B1_s, B2_s, BN_s, CD_t, CD_f, GO_tt, GO_ft, GO_tf, GO_ff, GO_ut, GO_uf, GD2_tt, GD2_ft, GD2_tf, GD2_ff, pk_t, pk_f, nilA_p, nilA_i, fa_p, fd_a, ex_t, iadd_i, isub_i, imul_i, ieq_i, ine_i, ilt_i, ile_i, igt_i, ige_i, seq_s, sne_s, slt_s, lens_s, lenx_0, lenx_s, not_b, cv_i, pe_00, pe_0p, pe_p0, eqB_e, eqB_n, List.getElem?_cons_zero, List.getElem?_cons_succ, Nat.zero_add, Bool.not_true, Bool.not_false, decide_true, decide_false, Int.reduceBEq, Int.reduceBNe, Int.reduceLT, Int.reduceLE, Int.reduceGT, Int.reduceGE, Int.reduceNeg, BEq.rfl, bne_self_eq_false, ge_iff_le, gt_iff_lt]
      simp only [h2, n1, n5, JN_0, JN_1, JN_2, JN_3, JN_4, JN_5, JN_6, JN_7, JN_8, JN_9, JN_10, JN_11, JN_12, JN_13, JN_14, JN_15, JN_16, JN_17, JN_18, JN_19, JN_20, JN_21, JN_22, JN_23, JN_24, B1_s, B2_s, BN_s, CD_t, CD_f, GO_tt, GO_ft, GO_tf, GO_ff, GO_ut, GO_uf, GD2_tt, GD2_ft, GD2_tf, GD2_ff, pk_t, pk_f, nilA_p, nilA_i, fa_p, fd_a, ex_t, iadd_i, isub_i, imul_i, ieq_i, ine_i, ilt_i, ile_i, igt_i, ige_i, seq_s, sne_s, slt_s, lens_s, lenx_0, lenx_s, not_b, cv_i, pe_00, pe_0p, pe_p0, eqB_e, eqB_n, List.getElem?_cons_zero, List.getElem?_cons_succ, Nat.zero_add, Bool.not_true, Bool.not_false, decide_true, decide_false, Int.reduceBEq, Int.reduceBNe, Int.reduceLT, Int.reduceLE, Int.reduceGT, Int.reduceGE, Int.reduceNeg, BEq.rfl, bne_self_eq_false, ge_iff_le, gt_iff_lt]
      exact e1'
    · unfold crashM
      rw [if_neg (by rw [ho]; simp)]
      exact q1
/-- a call that would be done, counted -/
def burnB (m : SM) : Bool := m.fuse != 1
noncomputable def burnM (m : SM) : SM := if m.fuse = 0 then m else if m.fuse = 1 then crashM { m with fuse := 0 } m.keep else { m with fuse := m.fuse - 1 }
theorem burn_c (h : St H p m L) : ∃ H' L', cK (.func (.func 37) [] []) [.ptr p 0] H = some (.bool (burnB m), H') ∧ St H' p (burnM m) L' ∧ Go' p H L H' L' ∧ (burnB m = true → L' = L ∧ Out [p] H H' ∧ (burnM m).fs = m.fs ∧ (burnM m).room = m.room ∧ (burnM m).off = m.off ∧ (burnM m).keep = m.keep) := by
  have h3 := h.ld_fuse
  by_cases h0 : m.fuse = 0
  · have hB : burnB m = true := by simp [burnB, h0]
    refine ⟨H, L, c_store_Store_burn ?_, by unfold burnM; rw [if_pos h0]; exact h, Go'.refl _ _ _, fun _ => ⟨rfl, Out.refl _ _, by unfold burnM; rw [if_pos h0], by unfold burnM; rw [if_pos h0], by unfold burnM; rw [if_pos h0], by unfold burnM; rw [if_pos h0]⟩⟩
    unfold s_store_Store_burn
    have : ((m.fuse : Int) == 0) = true := by rw [h0]; rfl
    simp only [h3, this, hB, JN_0, JN_1, JN_2, JN_3, JN_4, JN_5, JN_6, JN_7, JN_8, JN_9, JN_10, JN_11, JN_12, JN_13, JN_14, JN_15, JN_16, JN_17, JN_18, JN_19, JN_20, JN_21, JN_22, JN_23, JN_24, B1_s, B2_s, BN_s, CD_t, CD_f, GO_tt, GO_ft, GO_tf, GO_ff, GO_ut, GO_uf, GD2_tt, GD2_ft, GD2_tf, GD2_ff, pk_t, pk_f, nilA_p, nilA_i, fa_p, fd_a, ex_t, iadd_i, isub_i, imul_i, ieq_i, ine_i, ilt_i, ile_i, igt_i, ige_i, seq_s, sne_s, slt_s, lens_s, lenx_0, lenx_s, not_b, cv_i, pe_00, pe_0p, pe_p0, eqB_e, eqB_n, List.getElem?_cons_zero, List.getElem?_cons_succ, Nat.zero_add, Bool.not_true, Bool.not_false, decide_true, decide_false, Int.reduceBEq, Int.reduceBNe, Int.reduceLT, Int.reduceLE, Int.reduceGT, Int.reduceGE, Int.reduceNeg, BEq.rfl, bne_self_eq_false, ge_iff_le, gt_iff_lt]
  · have hz : ((m.fuse : Int) == 0) = false := by simp; omega
    have hf := h.ok.fuse
    have hw : IntKind.wrap .i64 ((m.fuse : Int) - 1) = ((m.fuse - 1 : Nat) : Int) := by rw [wrap_i64 (by omega) (by omega)]; omega
    obtain ⟨H1, a1, a2, a3, a4⟩ := h.head.st (o := 3) (v := .int .i64 ((m.fuse - 1 : Nat) : Int)) (by simp) rfl
    have hk1 := h.keep.out a3 fun j hj q => h.keep_p (by rw [List.mem_singleton.1 q] at hj; exact hj)
    obtain ⟨q1, q2⟩ := h.setHead (off := m.off) (fuse := m.fuse - 1) (keep := L.keep) (kl := m.keep) a2 (by omega) a3 (fun j hj => .inl (by simpa using hj)) hk1 (fun j hj => .inl hj) (rid_nd _)
    have hld : ld (.ptr p 3) H1 = some (.int .i64 ((m.fuse - 1 : Nat) : Int)) := a2.ld (o := 3) rfl
    have hld4 : ld (.ptr p 4) H1 = some L.keep := a2.ld (o := 4) rfl
    by_cases h1 : m.fuse = 1
    · have hB : burnB m = false := by simp [burnB, h1]
      have hn : decide ((0 : Int) < ((m.fuse - 1 : Nat) : Int)) = false := decide_eq_false (by omega)
      obtain ⟨H2, L2, c1, c2, c3⟩ := crash_c q1 (kv := L.keep) (kl := m.keep) hk1 q1.notF.2.2
      refine ⟨H2, L2, c_store_Store_burn ?_, ?_, q2.trans c3, fun q => by rw [hB] at q; cases q⟩
      · unfold s_store_Store_burn
        simp only [h3, hz, hw, a1, hld, hn, hld4, c1, hB, JN_0, JN_1, JN_2, JN_3, JN_4, JN_5, JN_6, JN_7, JN_8, JN_9, JN_10, JN_11, JN_12, JN_13, JN_14, JN_15, JN_16, JN_17, JN_18, JN_19, JN_20, JN_21, JN_22, JN_23, JN_24, B1_s, B2_s, BN_s, CD_t, CD_f, GO_tt, GO_ft, GO_tf, GO_ff, GO_ut, GO_uf, GD2_tt, GD2_ft, GD2_tf, GD2_ff, pk_t, pk_f, nilA_p, nilA_i, fa_p, fd_a, ex_t, iadd_i, isub_i, imul_i, ieq_i, ine_i, ilt_i, ile_i, igt_i, ige_i, seq_s, sne_s, slt_s, lens_s, lenx_0, lenx_s, not_b, cv_i, pe_00, pe_0p, pe_p0, eqB_e, eqB_n, List.getElem?_cons_zero, List.getElem?_cons_succ, Nat.zero_add, Bool.not_true, Bool.not_false, decide_true, decide_false, Int.reduceBEq, Int.reduceBNe, Int.reduceLT, Int.reduceLE, Int.reduceGT, Int.reduceGE, Int.reduceNeg, BEq.rfl, bne_self_eq_false, ge_iff_le, gt_iff_lt]
      · unfold burnM
        rw [if_neg h0, if_pos h1]
        have : m.fuse - 1 = 0 := by omega
        rw [this] at c2; exact c2
    · have hB : burnB m = true := by simp [burnB, h1]
      have hn : decide ((0 : Int) < ((m.fuse - 1 : Nat) : Int)) = true := decide_eq_true (by omega)
      have hbm : burnM m = { m with fuse := m.fuse - 1 } := by unfold burnM; rw [if_neg h0, if_neg h1]
      refine ⟨H1, L, c_store_Store_burn ?_, by rw [hbm]; exact q1, q2, fun _ => ⟨rfl, a3, by rw [hbm], by rw [hbm], by rw [hbm], by rw [hbm]⟩⟩
      unfold s_store_Store_burn
      simp only [h3, hz, hw, a1, hld, hn, hB, JN_0, JN_1, JN_2, JN_3, JN_4, JN_5, JN_6, JN_7, JN_8, JN_9, JN_10, JN_11, JN_12, JN_13, JN_14, JN_15, JN_16, JN_17, JN_18, JN_19, JN_20, JN_21, JN_22, JN_23, JN_24, B1_s, B2_s, BN_s, CD_t, CD_f, GO_tt, GO_ft, GO_tf, GO_ff, GO_ut, GO_uf, GD2_tt, GD2_ft, GD2_tf, GD2_ff, pk_t, pk_f, nilA_p, nilA_i, fa_p, fd_a, ex_t, iadd_i, isub_i, imul_i, ieq_i, ine_i, ilt_i, ile_i, igt_i, ige_i, seq_s, sne_s, slt_s, lens_s, lenx_0, lenx_s, not_b, cv_i, pe_00, pe_0p, pe_p0, eqB_e, eqB_n, List.getElem?_cons_zero, List.getElem?_cons_succ, Nat.zero_add, Bool.not_true, Bool.not_false, decide_true, decide_false, Int.reduceBEq, Int.reduceBNe, Int.reduceLT, Int.reduceLE, Int.reduceGT, Int.reduceGE, Int.reduceNeg, BEq.rfl, bne_self_eq_false, ge_iff_le, gt_iff_lt]
/-- a file is synced -/
noncomputable def syncM (m : SM) (at' : List Nat) : Int × SM := if ofE m at' ≠ 0 then (ofE m at', m) else if burnB m = false then (11, burnM m) else
  (0, { burnM m with fs := match look m at' with | some f => setF at' ⟨f.nm, f.b, f.b.length⟩ m.fs | none => m.fs })
theorem ne_of_ofE {m : SM} {at' : List Nat} (he : ofE m at' ≠ 0) : (ofE m at' != 0) = true := by simpa using he
theorem setF_same {f : Fl} {n : List Nat} {fs : List Fl} : sumB (setF n f fs) = sumB (setF n f fs) := rfl
theorem sync_c (h : St H p m L) (at' : List Nat) : ∃ H' L', cK (.func (.func 12) [] []) [.ptr p 0, .str at'] H = some (.int .i64 (syncM m at').1, H') ∧ St H' p (syncM m at').2 L' ∧ Go' p H L H' L' := by
  have h0 := of_c h at'
  by_cases he : ofE m at' = 0
  · obtain ⟨q1, q2, a, x, b, r1, r2, r3, r4, r5, r6, hx, hf⟩ := h.ofP he
    obtain ⟨H1, L1, b1, b2, b3, b4⟩ := burn_c h
    cases hB : burnB m with
    | false =>
      have : syncM m at' = (11, burnM m) := by unfold syncM; rw [if_neg (by simp [he]), if_pos hB]
      rw [this]
      refine ⟨H1, L1, c_store_Store_Sync ?_, b2, b3⟩
      unfold s_store_Store_Sync
      simp only [h0, he, q1, q2, b1, hB, Bool.false_eq_true, Bool.true_eq_false, or_self, if_false, JN_0, JN_1, JN_2, JN_3, JN_4, JN_5, JN_6, JN_7, JN_8, JN_9, JN_10, JN_11, JN_12, JN_13, JN_14, JN_15, JN_16, JN_17, JN_18, JN_19, JN_20, JN_21, JN_22, JN_23, JN_24, B1_s, B2_s, BN_s, CD_t, CD_f, GO_tt, GO_ft, GO_tf, GO_ff, GO_ut, GO_uf, GD2_tt, GD2_ft, GD2_tf, GD2_ff, pk_t, pk_f, nilA_p, nilA_i, fa_p, fd_a, ex_t, iadd_i, isub_i, imul_i, ieq_i, ine_i, ilt_i, ile_i, igt_i, ige_i, seq_s, sne_s, slt_s, lens_s, lenx_0, lenx_s, not_b, cv_i, pe_00, pe_0p, pe_p0, eqB_e, eqB_n, List.getElem?_cons_zero, List.getElem?_cons_succ, Nat.zero_add, Bool.not_true, Bool.not_false, decide_true, decide_false, Int.reduceBEq, Int.reduceBNe, Int.reduceLT, Int.reduceLE, Int.reduceGT, Int.reduceGE, Int.reduceNeg, BEq.rfl, bne_self_eq_false, ge_iff_le, gt_iff_lt]
    | true =>
      obtain ⟨e1, e2, e3, e4, e5, e6⟩ := b4 hB
      rw [e1] at b2 b3
      obtain ⟨hf1, hf2⟩ := b2.file x hx
      have hl := hf1.ld (o := 0) rfl
      have hlen := hf2.rw.len1
      rw [bs_len] at hlen
      obtain ⟨H2, c1, c2, c3, c4⟩ := put1 (t := (x.f.b.length : Int)) hf1 hf2 (b2.id_nd hx)
      have hset := b2.setFile (f := ⟨x.f.nm, x.f.b, x.f.b.length⟩) r1 (by rw [r2]; exact r3) (by rw [r2]; exact r4) rfl c3 (fun j hj => by rw [List.mem_singleton.1 hj]; exact .head _) c2 c4 (fun j hj => .inl hj) (rid_nd _) (Nat.le_refl _) (h.ok.byte x.f hf) (by
        have := b2.sum_set r1 (by rw [r2]; exact r3) (by rw [r2]; exact r4) ⟨x.f.nm, x.f.b, x.f.b.length⟩
        have := b2.ok.sum
        simp only at *; omega)
      obtain ⟨s1, s2⟩ := hset
      have : syncM m at' = (0, { burnM m with fs := setF x.f.nm ⟨x.f.nm, x.f.b, x.f.b.length⟩ (burnM m).fs }) := by
        unfold syncM; rw [if_neg (by simp [he]), if_neg (by simp [hB]), r6, ← r2, e3]
      rw [this]
      refine ⟨H2, _, c_store_Store_Sync ?_, s1, b3.trans s2⟩
      unfold s_store_Store_Sync
      simp only [h0, he, q1, q2, b1, hB, r5, hl, hlen, c1, Bool.false_eq_true, Bool.true_eq_false, or_self, if_false, JN_0, JN_1, JN_2, JN_3, JN_4, JN_5, JN_6, JN_7, JN_8, JN_9, JN_10, JN_11, JN_12, JN_13, JN_14, JN_15, JN_16, JN_17, JN_18, JN_19, JN_20, JN_21, JN_22, JN_23, JN_24, B1_s, B2_s, BN_s, CD_t, CD_f, GO_tt, GO_ft, GO_tf, GO_ff, GO_ut, GO_uf, GD2_tt, GD2_ft, GD2_tf, GD2_ff, pk_t, pk_f, nilA_p, nilA_i, fa_p, fd_a, ex_t, iadd_i, isub_i, imul_i, ieq_i, ine_i, ilt_i, ile_i, igt_i, ige_i, seq_s, sne_s, slt_s, lens_s, lenx_0, lenx_s, not_b, cv_i, pe_00, pe_0p, pe_p0, eqB_e, eqB_n, List.getElem?_cons_zero, List.getElem?_cons_succ, Nat.zero_add, Bool.not_true, Bool.not_false, decide_true, decide_false, Int.reduceBEq, Int.reduceBNe, Int.reduceLT, Int.reduceLE, Int.reduceGT, Int.reduceGE, Int.reduceNeg, BEq.rfl, bne_self_eq_false, ge_iff_le, gt_iff_lt]
  · have : syncM m at' = (ofE m at', m) := by unfold syncM; rw [if_pos he]
    rw [this]
    refine ⟨H, L, c_store_Store_Sync ?_, h, Go'.refl _ _ _⟩
    unfold s_store_Store_Sync
    simp only [h0, ne_of_ofE he, JN_0, JN_1, JN_2, JN_3, JN_4, JN_5, JN_6, JN_7, JN_8, JN_9, JN_10, JN_11, JN_12, JN_13, JN_14, JN_15, JN_16, JN_17, JN_18, JN_19, JN_20, JN_21, JN_22, JN_23, JN_24, B1_s, B2_s, BN_s, CD_t, CD_f, GO_tt, GO_ft, GO_tf, GO_ff, GO_ut, GO_uf, GD2_tt, GD2_ft, GD2_tf, GD2_ff, pk_t, pk_f, nilA_p, nilA_i, fa_p, fd_a, ex_t, iadd_i, isub_i, imul_i, ieq_i, ine_i, ilt_i, ile_i, igt_i, ige_i, seq_s, sne_s, slt_s, lens_s, lenx_0, lenx_s, not_b, cv_i, pe_00, pe_0p, pe_p0, eqB_e, eqB_n, List.getElem?_cons_zero, List.getElem?_cons_succ, Nat.zero_add, Bool.not_true, Bool.not_false, decide_true, decide_false, Int.reduceBEq, Int.reduceBNe, Int.reduceLT, Int.reduceLE, Int.reduceGT, Int.reduceGE, Int.reduceNeg, BEq.rfl, bne_self_eq_false, ge_iff_le, gt_iff_lt]
end
end Go.Proofs.YtnabkcdchklnpaaDoor.StC
