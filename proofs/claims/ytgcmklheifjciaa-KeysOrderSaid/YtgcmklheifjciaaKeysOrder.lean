/- The walk of KeysOrder. -/
import Derived.Test.YtgcmklheifjciaaKeysOpen
import Derived.Test.YtgcmklheifjciaaKeysOrderPlain
import Derived.IntWalk
import Derived.Deep.DrawnRows
set_option linter.unusedVariables false
set_option linter.unusedSimpArgs false
namespace Go.Proofs.Ytgcmklheifjciaa.KyL
open Go.RowKit Hp KyW
attribute [local go_sem ↓] Go.wp_at_zero Go.wp_at_succ

def NameP (s : ByteArray) (w : World) (e : Ending) (w' : World) : Prop := e = .returned (.string s) ∧ Only (fun _ => False) w w'
theorem name_any (i : Nat) (w : World) (hi : i < 300) : Calls Try.prog 12 #[.int .i64 i] w (NameP (Ky.nm i) w) := by
  have h1 : ((i : Int) % 20 : Int) < 20 := by omega
  have h2 : (0 : Int) ≤ (i : Int) % 20 := by omega
  have h3 : ((i : Int) / 20 : Int) < 15 := by omega
  have h4 : (0 : Int) ≤ (i : Int) / 20 := by omega
  have h0 : (0 : Int) ≤ (i : Int) := by omega
  have hx : ∀ x y : Int, x = ((UInt8.ofNat (97 + i % 20)).toNat : Int) → y = ((UInt8.ofNat (97 + i / 20)).toNat : Int) →
      (convert 38 9 (.slice (some ⟨w.heap.size, 0, none⟩) 2 2)).run Try.prog (w.alloc (.cells #[.int .u8 x, .int .u8 y] 5)) = .ok (.string (Ky.nm i)) (w.alloc (.cells #[.int .u8 x, .int .u8 y] 5)) := by
    intro x y hx hy
    refine run_str 38 9 5 Try.underlying38 Try.underlying5 Try.underlying9 (n := 2) (l := [UInt8.ofNat (97 + i % 20), UInt8.ofNat (97 + i / 20)]) ⟨by simp [bys], _, 2, rfl, by omega, by simp [maxLen], fun _ => ⟨w.heap.size, 0, rfl, by simp, fun j u hj => ?_⟩⟩
    rw [Nat.zero_add, World.cell?_alloc_at _ _ _ _ rfl]
    simp only [bys, List.map_cons, List.map_nil, ← hx, ← hy] at hj
    simpa using hj
  have hx' := hx (97 + (i : Int) % 20) (97 + (i : Int) / 20) (by simp only [UInt8.toNat_ofNat']; omega) (by simp only [UInt8.toNat_ofNat']; omega)
  clear hx
  go_enter Try.func12, Try.ntmps12
  go_wp2
  go_ret
  exact ⟨rfl, (Only.refl _ w).alloc _⟩

theorem all_kb (B : Nat) (w : World) (b most : Nat) (L : List (Ky.K × Int)) (h : KB B w b most L) (hB : B ≤ w.heap.size) :
    Calls Try.prog 13 #[.pointer (some ⟨b, 0, none⟩)] w fun e w' => ∃ v, e = .returned v ∧ OwnS w' 3 v L.length (L.flatMap ent) ∧ KB B w' b most L ∧ Below B w w' ∧ ∀ g, v.ownBlock = some g → w.heap.size ≤ g := by
  have h0 := h
  obtain ⟨bm, sl, h1, h2, h3, h4⟩ := h
  refine (all_any w b most L bm sl h1).mono ?_
  rintro e w' ⟨v, he, ho, h5, h6⟩
  exact ⟨v, he, ho, h0.below h5, h5.below B hB (fun x h => h.elim), h6⟩

theorem len_kb2 (B : Nat) (w : World) (b most : Nat) (L : List (Ky.K × Int)) (h : KB B w b most L) :
    Calls Try.prog 11 #[.pointer (some ⟨b, 0, none⟩)] w (IsI L.length w) := by
  obtain ⟨bm, sl, h1, h2, h3, h4⟩ := h
  exact len_any w b most L bm sl h1

theorem order_out (w : World) (most n : Int) (h : most < 1 ∨ 128 < most ∨ n < 0 ∨ 300 < n) :
    Calls Try.prog 4 #[.int .i64 most, .int .i64 n] w (IsT w) := by
  by_cases h1 : most < 1
  · clear h
    go_enter Try.func4, Try.ntmps4
    go_wp2_with (go_at_call 7; refine (awake _).mono ?_; rintro e W ⟨rfl, ho0⟩)
    go_ret
    exact ⟨rfl, ho0⟩
  by_cases h2 : 128 < most
  · clear h
    go_enter Try.func4, Try.ntmps4
    go_wp2_with (go_at_call 7; refine (awake _).mono ?_; rintro e W ⟨rfl, ho0⟩)
    go_ret
    exact ⟨rfl, ho0⟩
  by_cases h3 : n < 0
  · clear h
    go_enter Try.func4, Try.ntmps4
    go_wp2_with (go_at_call 7; refine (awake _).mono ?_; rintro e W ⟨rfl, ho0⟩)
    go_ret
    exact ⟨rfl, ho0⟩
  · have h4 : 300 < n := by omega
    clear h
    go_enter Try.func4, Try.ntmps4
    go_wp2_with (go_at_call 7; refine (awake _).mono ?_; rintro e W ⟨rfl, ho0⟩)
    go_ret
    exact ⟨rfl, ho0⟩

set_option maxHeartbeats 800000 in
set_option maxRecDepth 100000 in
theorem order_in (w : World) (most n : Nat) (hm1 : 1 ≤ most) (hm2 : most ≤ 128) (hn : n ≤ 300) :
    Calls Try.prog 4 #[.int .i64 most, .int .i64 n] w (IsT w) := by
  have g1 : (1 : Int) ≤ (most : Int) := by omega
  have g2 : (most : Int) ≤ 128 := by omega
  have g3 : (0 : Int) ≤ (n : Int) := by omega
  have g4 : (n : Int) ≤ 300 := by omega
  go_enter Try.func4, Try.ntmps4
  go_wp2_with (go_at_call 7; refine (awake _).mono ?_; rintro e W ⟨rfl, ho0⟩)
  refine (new_kb W.heap.size W (Nat.le_refl _) most most (by omega)).mono ?_
  rintro e w1 ⟨b, rfl, h1, o1⟩
  go_wp2_with fail
  go_loopw [6] (fun i wr => ∃ k : Nat, k ≤ n ∧ i = .int .i64 k ∧ Hid (KB W.heap.size wr b most (Ky.LL most k)) ∧ Hid (Below W.heap.size W wr)) (fun i _ => n - (intOf i).toNat)
  case atStart => exact ⟨0, Nat.zero_le _, rfl, Lib.hid (by rw [Ky.LL_zero]; exact h1), Lib.hid o1⟩
  case round =>
    obtain ⟨k, hk, rfl, hkb, hbel⟩ := hrel
    by_cases hlt : k < n
    · go_wp2_with (first
        | (go_at_call 12; refine (name_any k _ (by omega)).mono ?_; rintro e w2 ⟨rfl, ho2⟩)
        | (go_at_call 9; refine (put_kb W.heap.size w2 b most _ (hkb.out.below ho2) (Nat.le_trans hbel.out.size ho2.size) ⟨#[]⟩ (Ky.nm k) k k true _ (Ky.LL_put most k (by omega) (by omega))).mono ?_; rintro e w3 ⟨rfl, hkb3, ho3⟩))
      go_roundw
      case rel => exact ⟨k + 1, by omega, by go_num, Lib.hid hkb3, Lib.hid (hbel.out.trans ((ho2.below W.heap.size hbel.out.size (fun x h => h.elim)).trans ho3))⟩
      case measure => simp [intOf]; omega
    · obtain rfl : k = n := by omega
      obtain ⟨l, hl⟩ : ∃ l, Hid (l = min k most) := ⟨_, Lib.hid rfl⟩
      have hl1 : l ≤ k := by have := hl.out; omega
      have hl2 : l ≤ 128 := by have := hl.out; omega
      have hLL : Hid ((Ky.LL most k).length = l) := Lib.hid (by rw [Ky.LL_length, hl.out])
      have hs1 := hbel.out.size
      have hne1 : ((l : Int) != (l : Int)) = false := by simp
      have hC : ∀ W', Hid (KB W.heap.size W' b most (Ky.LL most k)) → W.heap.size ≤ W'.heap.size → Calls Try.prog 13 #[.pointer (some ⟨b, 0, none⟩)] W' fun e w' => ∃ v, e = .returned v ∧ OwnS w' 3 v l ((Ky.LL most k).flatMap ent) ∧ KB W.heap.size w' b most (Ky.LL most k) ∧ Below W.heap.size W' w' ∧ ∀ g, v.ownBlock = some g → W'.heap.size ≤ g := by
        intro W' hW' hs
        have := all_kb W.heap.size W' b most _ hW'.out hs
        rwa [hLL.out] at this
      have hC' := Lib.hid hC
      clear hC
      by_cases hmn : most < k
      · obtain rfl : l = most := by have := hl.out; omega
        go_wp2_with (first
          | (go_at_call 13; refine (hC'.out wr hkb hs1).mono ?_; rintro e w4 ⟨v, rfl, hv, hkb4, ho4, hge4⟩; obtain ⟨ad, cap, rfl, hcap, hcm⟩ := hv.slAt.val; have hv' := Lib.hid hv; have hkb4' := Lib.hid hkb4; have ho4' := Lib.hid ho4; have hs4 := ho4.size; clear hv hkb4 hge4 hcm ho4)
          | (go_at_call 11; refine (len_kb2 W.heap.size w4 b l _ hkb4'.out).mono ?_; rintro e w5 ⟨he, ho5⟩; rw [hLL.out] at he; subst he))
        have hv5 := Lib.hid (hv'.out.slAt.only ho5 (fun _ _ h => h))
        have h5 := Lib.hid ho5
        have hs5 := ho5.size
        clear ho5
        go_loopw [11] (fun i wx => ∃ j : Nat, j ≤ l ∧ i = .int .i64 j ∧ Hid (Only (fun _ => False) w5 wx)) (fun i _ => l - (intOf i).toNat)
        case atStart => exact ⟨0, Nat.zero_le _, rfl, Lib.hid (Only.refl _ _)⟩
        case round =>
          obtain ⟨wo, rfl⟩ : ∃ wo : World, wo = wr := ⟨_, rfl⟩
          obtain ⟨j, hj, rfl, honly⟩ := hrel
          by_cases hjl : j < l
          · obtain ⟨sb, so, cap', hsl, _, _, hsb, hcs⟩ := (hv5.out.only honly.out (fun _ _ h => h)).form (by omega)
            cases hsl
            have hjL : j < (Ky.LL l k).length := by rw [hLL.out]; exact hjl
            have hge := Ky.LL_get l k j hjL
            have q1 := hcs (j * 3 + 1) (.string (Ky.nm (k - l + j))) (by rw [KyW.flat_get ent 3 (fun _ => rfl) _ j hjL 1 (by omega), hge, show k - l + j = k - l + j from rfl]; rfl)
            have q2 := hcs (j * 3 + 2) (.int .i64 ((k : Int) - (l : Int) + (j : Int))) (by rw [KyW.flat_get ent 3 (fun _ => rfl) _ j hjL 2 (by omega), hge, show k - l + j = k - l + j from rfl]; simp [ent]; omega)
            rw [← Nat.add_assoc] at q1 q2
            have hL0 : (0 : Int) ≤ (j : Int) := by omega
            have hL1 : (j : Int) < (l : Int) := by omega
            have hL2 : (l : Int) ≤ (k : Int) := by omega
            have hN : ∀ w', Calls Try.prog 12 #[.int .i64 ((k : Int) - (l : Int) + (j : Int))] w' (NameP (Ky.nm (k - l + j)) w') := by
              intro w'
              have := name_any (k - l + j) w' (by omega)
              rwa [show ((k - l + j : Nat) : Int) = (k : Int) - (l : Int) + (j : Int) by omega] at this
            have hN' := Lib.hid hN
            have hbne : ((k : Int) - (l : Int) + (j : Int) != (k : Int) - (l : Int) + (j : Int)) = false := by simp
            generalize Ky.nm (k - l + j) = nmj at q1 hN'
            have hx1 := Lib.hid q1
            have hx2 := Lib.hid q2
            clear hN hcs hge
            go_wp2_with fail
            have hw1 : IntKind.i64.wrap ((k : Int) - (l : Int)) = (k : Int) - (l : Int) := IntWalk.i64_in _ (by omega)
            have hw2 : IntKind.i64.wrap ((k : Int) - (l : Int) + (j : Int)) = (k : Int) - (l : Int) + (j : Int) := IntWalk.i64_in _ (by omega)
            go_region_held3 (fun w' => w'.cell? ⟨sb, so + j * 3 + 1, none⟩ = some (.string nmj) ∧ w'.cell? ⟨sb, so + j * 3 + 2, none⟩ = some (.int .i64 ((k : Int) - (l : Int) + (j : Int))))
              (first | exact ⟨hx1.out, hx2.out⟩ | exact ⟨ho6.cellv hx1.out (fun h => h), ho6.cellv hx2.out (fun h => h)⟩)
              (first | (go_at_call 12; refine (hN'.out _).mono ?_; rintro e w6 ⟨rfl, ho6⟩))
            go_wp2
            go_roundw
            case rel => exact ⟨j + 1, by omega, by go_num, Lib.hid (honly.out.drew.trans ho6 (fun _ _ h => h))⟩
            case measure => simp [intOf]; omega
          · obtain rfl : j = l := by omega
            go_wp2
            go_ret
            exact ⟨rfl, ho0.trans (((hbel.out.trans ho4'.out).trans (h5.out.below _ (by omega) (fun x h => h.elim))).trans (honly.out.below _ (by omega) (fun x h => h.elim)) |>.mono ho0.size)⟩
      · obtain rfl : l = k := by have := hl.out; omega
        go_wp2_with (first
          | (go_at_call 13; refine (hC'.out wr hkb hs1).mono ?_; rintro e w4 ⟨v, rfl, hv, hkb4, ho4, hge4⟩; obtain ⟨ad, cap, rfl, hcap, hcm⟩ := hv.slAt.val; have hv' := Lib.hid hv; have hkb4' := Lib.hid hkb4; have ho4' := Lib.hid ho4; have hs4 := ho4.size; clear hv hkb4 hge4 hcm ho4)
          | (go_at_call 11; refine (len_kb2 W.heap.size w4 b most _ hkb4'.out).mono ?_; rintro e w5 ⟨he, ho5⟩; rw [hLL.out] at he; subst he))
        have hv5 := Lib.hid (hv'.out.slAt.only ho5 (fun _ _ h => h))
        have h5 := Lib.hid ho5
        have hs5 := ho5.size
        clear ho5
        go_loopw [11] (fun i wx => ∃ j : Nat, j ≤ l ∧ i = .int .i64 j ∧ Hid (Only (fun _ => False) w5 wx)) (fun i _ => l - (intOf i).toNat)
        case atStart => exact ⟨0, Nat.zero_le _, rfl, Lib.hid (Only.refl _ _)⟩
        case round =>
          obtain ⟨wo, rfl⟩ : ∃ wo : World, wo = wr := ⟨_, rfl⟩
          obtain ⟨j, hj, rfl, honly⟩ := hrel
          by_cases hjl : j < l
          · obtain ⟨sb, so, cap', hsl, _, _, hsb, hcs⟩ := (hv5.out.only honly.out (fun _ _ h => h)).form (by omega)
            cases hsl
            have hjL : j < (Ky.LL most l).length := by rw [hLL.out]; exact hjl
            have hge := Ky.LL_get most l j hjL
            have q1 := hcs (j * 3 + 1) (.string (Ky.nm j)) (by rw [KyW.flat_get ent 3 (fun _ => rfl) _ j hjL 1 (by omega), hge, show l - most + j = j by omega]; rfl)
            have q2 := hcs (j * 3 + 2) (.int .i64 (j : Int)) (by rw [KyW.flat_get ent 3 (fun _ => rfl) _ j hjL 2 (by omega), hge, show l - most + j = j by omega]; rfl)
            rw [← Nat.add_assoc] at q1 q2
            have hL0 : (0 : Int) ≤ (j : Int) := by omega
            have hL1 : (j : Int) < (l : Int) := by omega
            have hN : ∀ w', Calls Try.prog 12 #[.int .i64 (j : Int)] w' (NameP (Ky.nm j) w') := fun w' => name_any j w' (by omega)
            have hN' := Lib.hid hN
            have hbne : ((j : Int) != (j : Int)) = false := by simp
            generalize Ky.nm j = nmj at q1 hN'
            have hx1 := Lib.hid q1
            have hx2 := Lib.hid q2
            clear hN hcs hge
            go_wp2_with fail
            have hw2 : IntKind.i64.wrap (j : Int) = (j : Int) := IntWalk.i64_in _ (by omega)
            have hw0 : IntKind.i64.wrap 0 = 0 := IntWalk.i64_in _ (by omega)
            go_region_held3 (fun w' => w'.cell? ⟨sb, so + j * 3 + 1, none⟩ = some (.string nmj) ∧ w'.cell? ⟨sb, so + j * 3 + 2, none⟩ = some (.int .i64 (j : Int)))
              (first | exact ⟨hx1.out, hx2.out⟩ | exact ⟨ho6.cellv hx1.out (fun h => h), ho6.cellv hx2.out (fun h => h)⟩)
              (first | (go_at_call 12; refine (hN'.out _).mono ?_; rintro e w6 ⟨rfl, ho6⟩))
            go_wp2
            go_roundw
            case rel => exact ⟨j + 1, by omega, by go_num, Lib.hid (honly.out.drew.trans ho6 (fun _ _ h => h))⟩
            case measure => simp [intOf]; omega
          · obtain rfl : j = l := by omega
            go_wp2
            go_ret
            exact ⟨rfl, ho0.trans (((hbel.out.trans ho4'.out).trans (h5.out.below _ (by omega) (fun x h => h.elim))).trans (honly.out.below _ (by omega) (fun x h => h.elim)) |>.mono ho0.size)⟩

theorem order_raw {H : Type} (enc : TypeId × Value → H) (W : World) (base : Nat) (v0 v1 : Value) {d0 d1 : DataW H} {p0 p1 : List MemPlace}
    (ok0 : Value.okWide Try.prog W .any base 3 v0) (ok1 : Value.okWide Try.prog W .any base 3 v1)
    (h0 : DataW.Trod enc Try.prog W 0 (fun _ => true) true 3 v0 d0 p0) (h1 : DataW.Trod enc Try.prog W 0 (fun _ => true) true 3 v1 d1 p1) :
    Calls Try.prog 4 #[v0, v1] W (IsT W) := by
  obtain ⟨x, rfl, _⟩ := Go.ChangeShapes.open_int Try.underlying3 ok0 h0
  obtain ⟨y, rfl, _⟩ := Go.ChangeShapes.open_int Try.underlying3 ok1 h1
  by_cases h : x < 1 ∨ 128 < x ∨ y < 0 ∨ 300 < y
  · exact order_out W x y h
  · obtain ⟨m, rfl⟩ := Int.eq_ofNat_of_zero_le (a := x) (by omega)
    obtain ⟨n, rfl⟩ := Int.eq_ofNat_of_zero_le (a := y) (by omega)
    exact order_in W m n (by omega) (by omega) (by omega)
end Go.Proofs.Ytgcmklheifjciaa.KyL
