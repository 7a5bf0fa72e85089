/- strconv.ParseInt at base 16: the loop. -/
import Derived.Test.YtdacjomfipkpaaaDoorSegFmtb
import Derived.Lib.ConvBytes
import Derived.Lib.AtoiErrMem
set_option linter.unusedVariables false
set_option linter.unusedSimpArgs false
namespace Go.Proofs.YtdacjomfipkpaaaDoor.SgW
open Go.RowKit Hp Sg

theorem or32 : ∀ c : Fin 256, bits BinOp.or IntKind.u8 (c.val : Int) 32 = ((c.val ||| 32 : Nat) : Int) := by decide +kernel
theorem low (c : UInt8) (w : World) :
    Calls Tryd.prog 90 #[.int .u8 (c.toNat : Int)] w fun e w' => e = .returned (.int .u8 ((lo c : Nat) : Int)) ∧ w' = w := by
  have h : bits BinOp.or IntKind.u8 (c.toNat : Int) 32 = ((lo c : Nat) : Int) := or32 ⟨c.toNat, c.toNat_lt⟩
  generalize c.toNat = x at h
  generalize lo c = y at h
  go_enter Tryd.func90, Tryd.ntmps90
  go_wp2
  go_ret
  exact ⟨rfl, rfl⟩

theorem emp_tl : (ByteArray.mk #[]).toList = [] := by kernel_rfl

/-- the inner error's value -/
def ev (c : Nat) : Value := if c = 0 then .nilIface else .iface 115 (.int .i64 c)
def pu (l : List UInt8) : Nat × Nat := if l = [] then (0, 2) else pug 0 l

set_option maxRecDepth 100000 in
set_option maxHeartbeats 1600000 in
theorem pUint (s : ByteArray) (hs : s.size ≤ 281474976710656) (w : World) :
    Calls Tryd.prog 67 #[.string s, .int .i64 16, .int .i64 64] w
      fun e w' => e = .returned (.tuple #[.int .u64 ((pu s.data.toList).1 : Int), ev (pu s.data.toList).2]) ∧ Only (fun _ => False) w w' := by
  by_cases he : s = ⟨#[]⟩
  · subst he
    go_enter Tryd.func67, Tryd.ntmps67
    go_wp2
    go_ret2
    exact ⟨rfl, Only.refl _ _⟩
  · have hl : s.data.toList ≠ [] := fun h => he (by apply ByteArray.ext; simpa using h)
    have h0 : s.toList.isEmpty = false := by
      have h1 : ¬ s.toList = (ByteArray.mk #[]).toList := fun h => he ((str_tl_iff _ _).1 h)
      have h2 : (ByteArray.mk #[]).toList = [] := emp_tl
      rw [h2] at h1
      simpa using h1
    have hpu : pu s.data.toList = pug 0 s.data.toList := if_neg hl
    have hcv := Lib.run_convert_string_bytes (P := Tryd.prog) w 9 28 5 s Tryd.underlying9 Tryd.underlying28 Tryd.underlying5
    have hcell := Lib.bytesWorld_cell w 5 s
    have hbel := Lib.bytesWorld_below w 5 s
    have hsz := Lib.bytesWorld_size w 5 s
    generalize Lib.bytesWorld w 5 s = w1 at hcv hcell hbel hsz
    have hlen : s.data.toList.length = s.size := by show s.data.toList.length = s.data.size; simp
    generalize grownCap w s.size 0 5 = cap at hcv
    have Hpu := Lib.hid hpu
    have Hcell := Lib.hid hcell
    have Hbel := Lib.hid hbel
    have Hsz := Lib.hid hsz
    have Hlen := Lib.hid hlen
    clear hpu hcell hbel hsz hlen hl he
    have hM : IntKind.u64.wrap (IntKind.u64.wrap 18446744073709551616 - 1) = 18446744073709551615 := by kernel_rfl
    go_enter Tryd.func67, Tryd.ntmps67
    go_wp2
    go_loop [101, 13, 12] (fun i v z => ∃ (k m : Nat) (a : Int), k ≤ s.size ∧ i = .int .i64 (k : Int) ∧ v = .int .u64 a ∧ z = .bool false ∧ Hid (a = (m : Int) ∧ m < 2 ^ 64 ∧ pug 0 s.data.toList = pug m (s.data.toList.drop k))) (fun i _ _ => s.size - (intOf i).toNat)
    case atStart => exact ⟨0, 0, 0, Nat.zero_le _, rfl, rfl, rfl, Lib.hid ⟨rfl, by omega, rfl⟩⟩
    case round =>
      obtain ⟨k, m, a, hk, rfl, rfl, rfl, hm⟩ := hrel
      by_cases hlt : k < s.size
      · have hlt' : (k : Int) < (s.size : Int) := by omega
        have hc0 := Hcell.out k hlt
        have hdrop : s.data.toList.drop k = s.data.toList.getD k 0 :: s.data.toList.drop (k + 1) := by
          have hk2 : k < s.data.toList.length := by rw [Hlen.out]; exact hlt
          rw [List.drop_eq_getElem_cons hk2, List.getD_eq_getElem?_getD, List.getElem?_eq_getElem hk2]
          rfl
        generalize s.data.toList.getD k 0 = c at hc0 hdrop
        have Hdrop := Lib.hid hdrop
        clear hdrop
        have hq : lo c < 256 := Nat.or_lt_two_pow (n := 8) c.toNat_lt (by omega)
        have hdl : dl c = if 48 ≤ c.toNat ∧ c.toNat ≤ 57 then some (c.toNat - 48) else if 97 ≤ lo c ∧ lo c ≤ 122 then some (lo c - 87) else none := rfl
        have hlow := fun W => low c W
        have hcn := c.toNat_lt
        have hq95 : c.toNat = 95 → lo c = 127 := fun h => by unfold lo; rw [h]; rfl
        generalize lo c = q at hq hdl hlow hq95
        generalize c.toNat = x at hc0 hdl hlow hcn hq95
        have hstep : ∀ d, dl c = some d → ¬ 16 ≤ d → ¬ 2 ^ 60 ≤ m → pug m (s.data.toList.drop k) = pug (m * 16 + d) (s.data.toList.drop (k + 1)) := fun d h1 h2 h3 => by
          rw [Hdrop.out]; simp only [pug, h1]; rw [if_neg h2, if_neg h3]
        have hrange : ∀ d, dl c = some d → ¬ 16 ≤ d → 2 ^ 60 ≤ m → pug m (s.data.toList.drop k) = (2 ^ 64 - 1, 1) := fun d h1 h2 h3 => by
          rw [Hdrop.out]; simp only [pug, h1]; rw [if_neg h2, if_pos h3]
        have hsyn : (dl c = none ∨ ∃ d, dl c = some d ∧ 16 ≤ d) → pug m (s.data.toList.drop k) = (0, 2) := fun h => by
          rw [Hdrop.out]
          rcases h with h | ⟨d, h, h2⟩
          · simp only [pug, h]
          · simp only [pug, h]; rw [if_pos h2]
        have Hstep := Lib.hid hstep
        have Hrange := Lib.hid hrange
        have Hsyn := Lib.hid hsyn
        have Hdl := Lib.hid hdl
        clear hstep hrange hsyn hdl
        obtain ⟨hma, hm64, hmp⟩ := hm.out
        have Hma := Lib.hid hma
        have Hmp := Lib.hid hmp
        clear hma hmp hm
        have hw64 : wrap64 ((k : Int) + 1) = ((k + 1 : Nat) : Int) := by unfold wrap64; omega
        have hnext : ∀ d : Nat, dl c = some d → ¬ 16 ≤ d → ¬ 2 ^ 60 ≤ m → ∀ y : Int, y = a * 16 + d → Hid (y = ((m * 16 + d : Nat) : Int) ∧ m * 16 + d < 2 ^ 64 ∧ pug 0 s.data.toList = pug (m * 16 + d) (s.data.toList.drop (k + 1))) := fun d h1 h2 h3 y hy =>
          Lib.hid ⟨by rw [hy, Hma.out]; omega, by omega, by rw [Hmp.out, Hstep.out d h1 h2 h3]⟩
        have Hnext := Lib.hid hnext
        clear hnext
        by_cases hx : 48 ≤ x ∧ x ≤ 57
        · obtain ⟨x1, x2⟩ := hx
          have y1 : (48 : Int) ≤ (x : Int) := by omega
          have y2 : (x : Int) ≤ 57 := by omega
          have hdd : dl c = some (x - 48) := by rw [Hdl.out, if_pos ⟨x1, x2⟩]
          have Hdd := Lib.hid hdd
          clear hdd
          by_cases ha : 2 ^ 60 ≤ m
          · have ha' : (1152921504606846976 : Int) ≤ a := by have := Hma.out; omega
            go_wp2_with fail
            go_ret2
            refine ⟨?_, Only.of_below Hbel.out _⟩
            rw [Hpu.out, Hmp.out, Hrange.out _ Hdd.out (by omega) ha]
            kernel_rfl
          · have ha0 : 0 ≤ a := by have := Hma.out; omega
            have ha' : a < (1152921504606846976 : Int) := by have := Hma.out; omega
            obtain ⟨b16, hb16⟩ : ∃ b : Int, b = a * 16 := ⟨_, rfl⟩
            obtain ⟨n1, hn1⟩ : ∃ b : Int, b = b16 + ((x : Int) - 48) := ⟨_, rfl⟩
            have e1 : IntKind.u64.wrap (a * 16) = b16 := by rw [hb16]; exact IntWalk.u64_in _ (by omega)
            have e2 : IntKind.u64.wrap (b16 + ((x : Int) - 48)) = n1 := by rw [hn1]; exact IntWalk.u64_in _ (by omega)
            have e3 : b16 ≤ n1 := by omega
            have e4 : n1 ≤ 18446744073709551615 := by omega
            have hnn := Hnext.out (x - 48) Hdd.out (by omega) ha n1 (by omega)
            clear hb16 hn1
            go_wp2_with fail
            exact ⟨⟨k + 1, m * 16 + (x - 48), _, by omega, by simp, rfl, rfl, hnn⟩, by simp [intOf]; omega⟩
        · have Hx := Lib.hid hx
          by_cases h95 : x = 95
          · subst h95
            obtain rfl := hq95 rfl
            have hdd : dl c = none := by rw [Hdl.out, if_neg Hx.out]; rfl
            have Hdd := Lib.hid hdd
            clear hdd
            have hlow' : ∀ W, Calls Tryd.prog 90 #[.int .u8 95] W fun e w' => e = .returned (.int .u8 127) ∧ w' = W := hlow
            go_wp2_with (go_at_call 90; refine (hlow' _).mono ?_; rintro e w' ⟨rfl, rfl⟩)
            all_goals
              go_ret2
              refine ⟨?_, Only.of_below Hbel.out _⟩
              rw [Hpu.out, Hmp.out, Hsyn.out (.inl Hdd.out)]
              kernel_rfl
          have y95 : ¬ ((x : Int) = 95) := by omega
          obtain hx | hx : x < 48 ∨ 57 < x := by omega
          all_goals
            first
            | (have y1 : (x : Int) < 48 := by omega)
            | (have y1 : (57 : Int) < (x : Int) := by omega)
            have y0 : (x : Int) < 256 := by omega
            by_cases hqq : 97 ≤ q ∧ q ≤ 122
            · have hdd : dl c = some (q - 87) := by rw [Hdl.out, if_neg Hx.out, if_pos hqq]
              have Hdd := Lib.hid hdd
              clear hdd
              obtain ⟨q1, q2⟩ := hqq
              have z1 : (97 : Int) ≤ (q : Int) := by omega
              have z2 : (q : Int) ≤ 122 := by omega
              by_cases hq16 : 103 ≤ q
              · have z3 : (103 : Int) ≤ (q : Int) := by omega
                go_wp2_with (go_at_call 90; refine (hlow _).mono ?_; rintro e w' ⟨rfl, rfl⟩)
                all_goals
                  go_ret2
                  refine ⟨?_, Only.of_below Hbel.out _⟩
                  rw [Hpu.out, Hmp.out, Hsyn.out (.inr ⟨_, Hdd.out, by omega⟩)]
                  kernel_rfl
              · have z3 : (q : Int) < 103 := by omega
                by_cases ha : 2 ^ 60 ≤ m
                · have ha' : (1152921504606846976 : Int) ≤ a := by have := Hma.out; omega
                  go_wp2_with (go_at_call 90; refine (hlow _).mono ?_; rintro e w' ⟨rfl, rfl⟩)
                  all_goals
                    go_ret2
                    refine ⟨?_, Only.of_below Hbel.out _⟩
                    rw [Hpu.out, Hmp.out, Hrange.out _ Hdd.out (by omega) ha]
                    kernel_rfl
                · have ha0 : 0 ≤ a := by have := Hma.out; omega
                  have ha' : a < (1152921504606846976 : Int) := by have := Hma.out; omega
                  obtain ⟨b16, hb16⟩ : ∃ b : Int, b = a * 16 := ⟨_, rfl⟩
                  obtain ⟨n1, hn1⟩ : ∃ b : Int, b = b16 + ((q : Int) - 97 + 10) := ⟨_, rfl⟩
                  have e1 : IntKind.u64.wrap (a * 16) = b16 := by rw [hb16]; exact IntWalk.u64_in _ (by omega)
                  have e2 : IntKind.u64.wrap (b16 + ((q : Int) - 97 + 10)) = n1 := by rw [hn1]; exact IntWalk.u64_in _ (by omega)
                  have e3 : b16 ≤ n1 := by omega
                  have e4 : n1 ≤ 18446744073709551615 := by omega
                  have hnn := Hnext.out (q - 87) Hdd.out (by omega) ha n1 (by omega)
                  clear hb16 hn1
                  go_wp2_with (go_at_call 90; refine (hlow _).mono ?_; rintro e w' ⟨rfl, rfl⟩)
                  all_goals exact ⟨⟨k + 1, m * 16 + (q - 87), _, by omega, by simp, rfl, rfl, hnn⟩, by simp [intOf]; omega⟩
            · have hdd : dl c = none := by rw [Hdl.out, if_neg Hx.out, if_neg hqq]
              have Hdd := Lib.hid hdd
              clear hdd
              obtain hqq | hqq : q < 97 ∨ 122 < q := by omega
              all_goals
                first
                | (have z1 : (q : Int) < 97 := by omega)
                | (have z1 : (122 : Int) < (q : Int) := by omega)
                go_wp2_with (go_at_call 90; refine (hlow _).mono ?_; rintro e w' ⟨rfl, rfl⟩)
                all_goals
                  go_ret2
                  refine ⟨?_, Only.of_below Hbel.out _⟩
                  rw [Hpu.out, Hmp.out, Hsyn.out (.inl Hdd.out)]
                  kernel_rfl
      · have hlt' : ¬ (k : Int) < (s.size : Int) := by omega
        have hkk : k = s.size := by omega
        subst hkk
        obtain ⟨hma, hm64, hmp⟩ := hm.out
        have hr : pug 0 s.data.toList = (m, 0) := by
          rw [hmp, ← Hlen.out, List.drop_length]; rfl
        have Hr := Lib.hid hr
        have Hma := Lib.hid hma
        clear hr hmp hma hm
        go_wp2_with fail
        go_ret2
        refine ⟨?_, Only.of_below Hbel.out _⟩
        rw [Hpu.out, Hr.out, ← Hma.out]
        rfl
end Go.Proofs.YtdacjomfipkpaaaDoor.SgW
