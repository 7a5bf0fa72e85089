/- The laws of chapter 17 over the contracts of keys: awake, KeysApart. -/
import Derived.Test.YtgcmklheifjciaaKeysRefPut
set_option linter.unusedVariables false
set_option linter.unusedSimpArgs false
namespace Go.Proofs.Ytgcmklheifjciaa.KyL
open Go.RowKit Hp KyW

/-- a *Keys all of whose blocks lie at or above B -/
def KB (B : Nat) (w : World) (b most : Nat) (L : List (Ky.K × Int)) : Prop := ∃ bm sl, KR w b most L bm sl ∧ B ≤ b ∧ B ≤ bm ∧ ∀ g, sl.ownBlock = some g → B ≤ g
theorem KB.below {B : Nat} {w w' : World} {b most : Nat} {L : List (Ky.K × Int)} (h : KB B w b most L) (ho : Only (fun _ => False) w w') : KB B w' b most L := by
  obtain ⟨bm, sl, h1, h2, h3, h4⟩ := h
  exact ⟨bm, sl, h1.only ho (fun h => h) (fun h => h) (fun _ _ h => h), h2, h3, h4⟩
theorem KB.ret {B : Nat} {w : World} {b most : Nat} {L : List (Ky.K × Int)} (h : KB B w b most L) : B ≤ b ∧ b < w.heap.size := by
  obtain ⟨bm, sl, h1, h2, h3, h4⟩ := h
  exact ⟨h2, World.block_lt_of_cell? w _ h1.c0⟩

def NewP (B : Nat) (most : Nat) (w : World) (e : Ending) (w' : World) : Prop := ∃ b, e = .returned (.pointer (some ⟨b, 0, none⟩)) ∧ KB B w' b most [] ∧ Below B w w'
theorem new_kb (B : Nat) (w : World) (hB : B ≤ w.heap.size) (n : Int) (most : Nat) (hm : (min (max n 1) 128).toNat = most) : Calls Try.prog 8 #[.int .i64 n] w (NewP B most w) :=
  (new_any w n).mono fun e w' ⟨he, hk, ho⟩ => ⟨_, he, ⟨_, _, by rw [← hm]; exact hk, by omega, by omega, by simp [Value.ownBlock]⟩, ho.below B hB (fun x h => h.elim)⟩

def PutP (B : Nat) (b most : Nat) (r : Int) (ok : Bool) (L' : List (Ky.K × Int)) (w : World) (e : Ending) (w' : World) : Prop := e = .returned (.tuple #[.int .i64 r, .bool ok]) ∧ KB B w' b most L' ∧ Below B w w'
theorem put_kb (B : Nat) (w : World) (b most : Nat) (L : List (Ky.K × Int)) (h : KB B w b most L) (hB : B ≤ w.heap.size) (k1 k2 : ByteArray) (id : Int) (r : Int) (ok : Bool) (L' : List (Ky.K × Int)) (hp : Ky.put most L (k1, k2) id = (r, ok, L')) :
    Calls Try.prog 9 #[.pointer (some ⟨b, 0, none⟩), .agg #[.string k1, .string k2], .int .i64 id] w (PutP B b most r ok L' w) := by
  obtain ⟨bm, sl, h1, h2, h3, h4⟩ := h
  refine (put_any w b most L bm sl h1 k1 k2 id).mono ?_
  rintro e w' ⟨he, sl', hk, ho, hn⟩
  rw [hp] at he hk
  refine ⟨he, ⟨bm, sl', hk, h2, h3, fun g hg => ?_⟩, ho.below B hB (fun x h => ?_)⟩
  · rcases hn with hn | hn
    · exact h4 g (by rw [← hn]; exact hg)
    · have := hn g hg; omega
  · rcases h with rfl | rfl | h
    · exact h2
    · exact h3
    · exact h4 x h

def GetP (B : Nat) (b most : Nat) (r : Int) (ok : Bool) (L : List (Ky.K × Int)) (w : World) (e : Ending) (w' : World) : Prop := e = .returned (.tuple #[.int .i64 r, .bool ok]) ∧ KB B w' b most L ∧ Below B w w'
theorem get_kb (B : Nat) (w : World) (b most : Nat) (L : List (Ky.K × Int)) (h : KB B w b most L) (hB : B ≤ w.heap.size) (k1 k2 : ByteArray) (r : Option Int) (hp : Ky.get L (k1, k2) = r) :
    Calls Try.prog 10 #[.pointer (some ⟨b, 0, none⟩), .agg #[.string k1, .string k2]] w (GetP B b most (r.getD 0) r.isSome L w) := by
  have h0 := h
  obtain ⟨bm, sl, h1, h2, h3, h4⟩ := h
  refine (get_any w b most L bm sl h1 k1 k2).mono ?_
  rintro e w' ⟨he, ho⟩
  rw [hp] at he
  exact ⟨he, h0.below ho, ho.below B hB (fun x h => h.elim)⟩
def LenP (B : Nat) (b most : Nat) (L : List (Ky.K × Int)) (w : World) (e : Ending) (w' : World) : Prop := e = .returned (.int .i64 L.length) ∧ KB B w' b most L ∧ Below B w w'
theorem len_kb (B : Nat) (w : World) (b most : Nat) (L : List (Ky.K × Int)) (h : KB B w b most L) (hB : B ≤ w.heap.size) :
    Calls Try.prog 11 #[.pointer (some ⟨b, 0, none⟩)] w (LenP B b most L w) := by
  have h0 := h
  obtain ⟨bm, sl, h1, h2, h3, h4⟩ := h
  refine (len_any w b most L bm sl h1).mono ?_
  rintro e w' ⟨he, ho⟩
  exact ⟨he, h0.below ho, ho.below B hB (fun x h => h.elim)⟩

def IsT (w : World) (e : Ending) (w' : World) : Prop := e = .returned (.bool true) ∧ Below w.heap.size w w'

theorem awake (w : World) : Calls Try.prog 7 #[] w (IsT w) := by
  have hB := Nat.le_refl w.heap.size
  go_enter Try.func7, Try.ntmps7
  go_wp2_with fail
  refine (new_kb w.heap.size w (Nat.le_refl _) 3 3 (by decide)).mono ?_
  rintro e w1 ⟨b, rfl, h1, o1⟩
  have s1 := o1.size
  go_wp2_with fail
  refine (put_kb w.heap.size w1 b 3 [] h1 s1 ⟨#[97]⟩ ⟨#[49]⟩ 7 7 true [((⟨#[97]⟩, ⟨#[49]⟩), 7)] (by decide)).mono ?_
  rintro e w2 ⟨rfl, h2, o2⟩
  have s2 := Nat.le_trans s1 o2.size
  go_wp2_with fail
  refine (put_kb w.heap.size w2 b 3 _ h2 s2 ⟨#[97]⟩ ⟨#[49]⟩ 8 7 false [((⟨#[97]⟩, ⟨#[49]⟩), 7)] (by decide)).mono ?_
  rintro e w3 ⟨rfl, h3, o3⟩
  have s3 := Nat.le_trans s2 o3.size
  go_wp2_with fail
  refine (len_kb w.heap.size w3 b 3 _ h3 s3).mono ?_
  rintro e w4 ⟨rfl, h4, o4⟩
  go_wp2_with fail
  go_ret
  exact ⟨rfl, ((o1.trans o2).trans o3).trans o4⟩
theorem apart_same (w : World) (a1 a2 b1 b2 : ByteArray) (x y : Int) (e1 : a1 = b1) (e2 : a2 = b2) :
    Calls Try.prog 3 #[.agg #[.string a1, .string a2], .agg #[.string b1, .string b2], .int .i64 x, .int .i64 y] w (IsT w) := by
  subst e1
  subst e2
  go_enter Try.func3, Try.ntmps3
  go_wp2_with fail
  refine (awake _).mono ?_
  rintro e W ⟨rfl, ho0⟩
  have ho : Below w.heap.size w W := (((Below.refl _ w).alloc (Nat.le_refl _) _).alloc (by simp) _).trans (ho0.mono (by simp; omega))
  have hs0 : w.heap.size + 1 < W.heap.size := by have := ho0.size; simp at this; omega
  have p0 : W.cell? ⟨w.heap.size, 0, none⟩ = some (.string a1) := by
    rw [ho0.cell (p := ⟨w.heap.size, 0, none⟩) (by simp; omega), World.cell?_alloc_past _ _ _ (by simp), World.cell?_alloc_at _ _ _ _ rfl]; rfl
  have p1 : W.cell? ⟨w.heap.size, 1, none⟩ = some (.string a2) := by
    rw [ho0.cell (p := ⟨w.heap.size, 1, none⟩) (by simp; omega), World.cell?_alloc_past _ _ _ (by simp), World.cell?_alloc_at _ _ _ _ rfl]; rfl
  have q0 : W.cell? ⟨w.heap.size + 1, 0, none⟩ = some (.string a1) := by
    rw [ho0.cell (p := ⟨w.heap.size + 1, 0, none⟩) (by simp), World.cell?_alloc_at _ _ _ _ (by simp)]; rfl
  have q1 : W.cell? ⟨w.heap.size + 1, 1, none⟩ = some (.string a2) := by
    rw [ho0.cell (p := ⟨w.heap.size + 1, 1, none⟩) (by simp), World.cell?_alloc_at _ _ _ _ (by simp)]; rfl
  have HO := Lib.hid ho
  clear ho ho0
  go_wp2_with fail
  refine (new_kb W.heap.size W (Nat.le_refl _) 5 5 (by decide)).mono ?_
  rintro e w1 ⟨b, rfl, h1, o1⟩
  have s1 := o1.size
  have p0 := (o1.cell (p := ⟨w.heap.size, 0, none⟩) (by simp; omega)).trans p0
  have p1 := (o1.cell (p := ⟨w.heap.size, 1, none⟩) (by simp; omega)).trans p1
  have q0 := (o1.cell (p := ⟨w.heap.size + 1, 0, none⟩) (by simp; omega)).trans q0
  have q1 := (o1.cell (p := ⟨w.heap.size + 1, 1, none⟩) (by simp; omega)).trans q1
  go_wp2_with fail
  refine (put_kb W.heap.size w1 b 5 [] h1 s1 a1 a2 x x true [((a1, a2), x)] (by simp [Ky.put, Ky.get])).mono ?_
  rintro e w2 ⟨rfl, h2, o2⟩
  have s2 := Nat.le_trans s1 o2.size
  have p0 := (o2.cell (p := ⟨w.heap.size, 0, none⟩) (by simp; omega)).trans p0
  have p1 := (o2.cell (p := ⟨w.heap.size, 1, none⟩) (by simp; omega)).trans p1
  have q0 := (o2.cell (p := ⟨w.heap.size + 1, 0, none⟩) (by simp; omega)).trans q0
  have q1 := (o2.cell (p := ⟨w.heap.size + 1, 1, none⟩) (by simp; omega)).trans q1
  go_wp2_with fail
  refine (put_kb W.heap.size w2 b 5 _ h2 s2 a1 a2 y x false [((a1, a2), x)] (by simp [Ky.put, Ky.get])).mono ?_
  rintro e w3 ⟨rfl, h3, o3⟩
  have s3 := Nat.le_trans s2 o3.size
  have p0 := (o3.cell (p := ⟨w.heap.size, 0, none⟩) (by simp; omega)).trans p0
  have p1 := (o3.cell (p := ⟨w.heap.size, 1, none⟩) (by simp; omega)).trans p1
  have q0 := (o3.cell (p := ⟨w.heap.size + 1, 0, none⟩) (by simp; omega)).trans q0
  have q1 := (o3.cell (p := ⟨w.heap.size + 1, 1, none⟩) (by simp; omega)).trans q1
  go_wp2_with fail
  refine (get_kb W.heap.size w3 b 5 _ h3 s3 a1 a2 (some x) (by simp [Ky.get])).mono ?_
  rintro e w4 ⟨rfl, h4, o4⟩
  have s4 := Nat.le_trans s3 o4.size
  have p0 := (o4.cell (p := ⟨w.heap.size, 0, none⟩) (by simp; omega)).trans p0
  have p1 := (o4.cell (p := ⟨w.heap.size, 1, none⟩) (by simp; omega)).trans p1
  have q0 := (o4.cell (p := ⟨w.heap.size + 1, 0, none⟩) (by simp; omega)).trans q0
  have q1 := (o4.cell (p := ⟨w.heap.size + 1, 1, none⟩) (by simp; omega)).trans q1
  go_wp2_with fail
  refine (get_kb W.heap.size w4 b 5 _ h4 s4 a1 a2 (some x) (by simp [Ky.get])).mono ?_
  rintro e w5 ⟨rfl, h5, o5⟩
  have s5 := Nat.le_trans s4 o5.size
  have p0 := (o5.cell (p := ⟨w.heap.size, 0, none⟩) (by simp; omega)).trans p0
  have p1 := (o5.cell (p := ⟨w.heap.size, 1, none⟩) (by simp; omega)).trans p1
  have q0 := (o5.cell (p := ⟨w.heap.size + 1, 0, none⟩) (by simp; omega)).trans q0
  have q1 := (o5.cell (p := ⟨w.heap.size + 1, 1, none⟩) (by simp; omega)).trans q1
  go_wp2_with fail
  refine (len_kb W.heap.size w5 b 5 _ h5 s5).mono ?_
  rintro e w6 ⟨rfl, h6, o6⟩
  go_wp2_with fail
  go_ret
  exact ⟨rfl, HO.out.trans ((((((o1.trans o2).trans o3).trans o4).trans o5).trans o6).mono (by omega))⟩

set_option maxHeartbeats 400000 in
theorem apart_diff (w : World) (a1 a2 b1 b2 : ByteArray) (x y : Int) (hn : ¬ (a1, a2) = (b1, b2)) (t : (¬ a1.toList = b1.toList) ∨ (a1 = b1 ∧ ¬ a2.toList = b2.toList)) :
    Calls Try.prog 3 #[.agg #[.string a1, .string a2], .agg #[.string b1, .string b2], .int .i64 x, .int .i64 y] w (IsT w) := by
  have Hn := Lib.hid hn
  clear hn
  have hgb : Ky.get [((a1, a2), x)] (b1, b2) = none := by simp only [Ky.get, List.find?_cons, Hn.out, decide_false]; rfl
  have g1 := Lib.hid (show Ky.get [((a1, a2), x), ((b1, b2), y)] (a1, a2) = some x by simp [Ky.get])
  have g2 := Lib.hid (show Ky.get [((a1, a2), x), ((b1, b2), y)] (b1, b2) = some y by simp only [Ky.get, List.find?_cons, Hn.out, decide_false, decide_true]; rfl)
  have pu := Lib.hid (show Ky.put 5 [((a1, a2), x)] (b1, b2) y = (y, true, [((a1, a2), x), ((b1, b2), y)]) by unfold Ky.put; rw [hgb]; simp)
  clear hgb
  rcases t with t | ⟨t1, t⟩
  rotate_left
  have t1' : a1.toList = b1.toList := congrArg _ t1
  clear t1
  all_goals
    go_enter Try.func3, Try.ntmps3
    go_wp2_with fail
    refine (awake _).mono ?_
    rintro e W ⟨rfl, ho0⟩
    have ho : Below w.heap.size w W := (((Below.refl _ w).alloc (Nat.le_refl _) _).alloc (by simp) _).trans (ho0.mono (by simp; omega))
    have hs0 : w.heap.size + 1 < W.heap.size := by have := ho0.size; simp at this; omega
    have p0 : W.cell? ⟨w.heap.size, 0, none⟩ = some (.string a1) := by
      rw [ho0.cell (p := ⟨w.heap.size, 0, none⟩) (by simp; omega), World.cell?_alloc_past _ _ _ (by simp), World.cell?_alloc_at _ _ _ _ rfl]; rfl
    have p1 : W.cell? ⟨w.heap.size, 1, none⟩ = some (.string a2) := by
      rw [ho0.cell (p := ⟨w.heap.size, 1, none⟩) (by simp; omega), World.cell?_alloc_past _ _ _ (by simp), World.cell?_alloc_at _ _ _ _ rfl]; rfl
    have q0 : W.cell? ⟨w.heap.size + 1, 0, none⟩ = some (.string b1) := by
      rw [ho0.cell (p := ⟨w.heap.size + 1, 0, none⟩) (by simp), World.cell?_alloc_at _ _ _ _ (by simp)]; rfl
    have q1 : W.cell? ⟨w.heap.size + 1, 1, none⟩ = some (.string b2) := by
      rw [ho0.cell (p := ⟨w.heap.size + 1, 1, none⟩) (by simp), World.cell?_alloc_at _ _ _ _ (by simp)]; rfl
    have HO := Lib.hid ho
    clear ho ho0
    go_wp2_with fail
    refine (new_kb W.heap.size W (Nat.le_refl _) 5 5 (by decide)).mono ?_
    rintro e w1 ⟨b, rfl, h1, o1⟩
    have s1 := o1.size
    have p0 := (o1.cell (p := ⟨w.heap.size, 0, none⟩) (by simp; omega)).trans p0
    have p1 := (o1.cell (p := ⟨w.heap.size, 1, none⟩) (by simp; omega)).trans p1
    have q0 := (o1.cell (p := ⟨w.heap.size + 1, 0, none⟩) (by simp; omega)).trans q0
    have q1 := (o1.cell (p := ⟨w.heap.size + 1, 1, none⟩) (by simp; omega)).trans q1
    go_wp2_with fail
    refine (put_kb W.heap.size w1 b 5 [] h1 s1 a1 a2 x x true [((a1, a2), x)] (by simp [Ky.put, Ky.get])).mono ?_
    rintro e w2 ⟨rfl, h2, o2⟩
    have s2 := Nat.le_trans s1 o2.size
    have p0 := (o2.cell (p := ⟨w.heap.size, 0, none⟩) (by simp; omega)).trans p0
    have p1 := (o2.cell (p := ⟨w.heap.size, 1, none⟩) (by simp; omega)).trans p1
    have q0 := (o2.cell (p := ⟨w.heap.size + 1, 0, none⟩) (by simp; omega)).trans q0
    have q1 := (o2.cell (p := ⟨w.heap.size + 1, 1, none⟩) (by simp; omega)).trans q1
    go_wp2_with fail
    refine (put_kb W.heap.size w2 b 5 _ h2 s2 b1 b2 y y true [((a1, a2), x), ((b1, b2), y)] pu.out).mono ?_
    rintro e w3 ⟨rfl, h3, o3⟩
    have s3 := Nat.le_trans s2 o3.size
    have p0 := (o3.cell (p := ⟨w.heap.size, 0, none⟩) (by simp; omega)).trans p0
    have p1 := (o3.cell (p := ⟨w.heap.size, 1, none⟩) (by simp; omega)).trans p1
    have q0 := (o3.cell (p := ⟨w.heap.size + 1, 0, none⟩) (by simp; omega)).trans q0
    have q1 := (o3.cell (p := ⟨w.heap.size + 1, 1, none⟩) (by simp; omega)).trans q1
    go_wp2_with fail
    refine (get_kb W.heap.size w3 b 5 _ h3 s3 a1 a2 (some x) g1.out).mono ?_
    rintro e w4 ⟨rfl, h4, o4⟩
    have s4 := Nat.le_trans s3 o4.size
    have p0 := (o4.cell (p := ⟨w.heap.size, 0, none⟩) (by simp; omega)).trans p0
    have p1 := (o4.cell (p := ⟨w.heap.size, 1, none⟩) (by simp; omega)).trans p1
    have q0 := (o4.cell (p := ⟨w.heap.size + 1, 0, none⟩) (by simp; omega)).trans q0
    have q1 := (o4.cell (p := ⟨w.heap.size + 1, 1, none⟩) (by simp; omega)).trans q1
    go_wp2_with fail
    refine (get_kb W.heap.size w4 b 5 _ h4 s4 b1 b2 (some y) g2.out).mono ?_
    rintro e w5 ⟨rfl, h5, o5⟩
    have s5 := Nat.le_trans s4 o5.size
    have p0 := (o5.cell (p := ⟨w.heap.size, 0, none⟩) (by simp; omega)).trans p0
    have p1 := (o5.cell (p := ⟨w.heap.size, 1, none⟩) (by simp; omega)).trans p1
    have q0 := (o5.cell (p := ⟨w.heap.size + 1, 0, none⟩) (by simp; omega)).trans q0
    have q1 := (o5.cell (p := ⟨w.heap.size + 1, 1, none⟩) (by simp; omega)).trans q1
    go_wp2_with fail
    refine (len_kb W.heap.size w5 b 5 _ h5 s5).mono ?_
    rintro e w6 ⟨rfl, h6, o6⟩
    go_wp2_with fail
    go_ret
    exact ⟨rfl, HO.out.trans ((((((o1.trans o2).trans o3).trans o4).trans o5).trans o6).mono (by omega))⟩

theorem apart (w : World) (a1 a2 b1 b2 : ByteArray) (x y : Int) :
    Calls Try.prog 3 #[.agg #[.string a1, .string a2], .agg #[.string b1, .string b2], .int .i64 x, .int .i64 y] w (IsT w) := by
  by_cases e : (a1, a2) = (b1, b2)
  · cases e
    exact apart_same w a1 a2 a1 a2 x y rfl rfl
  · refine apart_diff w a1 a2 b1 b2 x y e ?_
    by_cases e1 : a1 = b1
    · refine .inr ⟨e1, fun h => e ?_⟩
      rw [str_tl_iff] at h
      rw [e1, h]
    · exact .inl (fun h => e1 ((str_tl_iff _ _).1 h))
end Go.Proofs.Ytgcmklheifjciaa.KyL
