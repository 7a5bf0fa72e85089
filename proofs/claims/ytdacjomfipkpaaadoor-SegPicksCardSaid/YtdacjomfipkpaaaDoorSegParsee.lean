/- strconv.ParseInt at base 16; seg.Parse. -/
import Derived.Test.YtdacjomfipkpaaaDoorSegParsed
set_option linter.unusedVariables false
set_option linter.unusedSimpArgs false
namespace Go.Proofs.YtdacjomfipkpaaaDoor.SgW
open Go.RowKit Hp Sg

set_option maxRecDepth 100000 in
theorem parseInt (s : ByteArray) (hs : s.size ≤ 281474976710656) (w : World) (hv : Vs w) :
    Calls Tryd.prog 25 #[.string s, .int .i64 16, .int .i64 64] w
      fun e w' => ∃ v x, e = .returned (.tuple #[.int .i64 v, x]) ∧ (x = .nilIface ∨ ∃ t p, x = .iface t p) ∧ (∀ n, n < 2 ^ 48 → s.data.toList = pad 12 n → v = n ∧ x = .nilIface) ∧ Only (fun _ => False) w w' := by
  go_enter Tryd.func25, Tryd.ntmps25
  go_wp2_with fail
  refine (pInt s hs w).mono ?_
  rintro e w1 ⟨v, c, hc, rfl, hn, ho⟩
  have Hn := Lib.hid hn
  have Ho := Lib.hid ho
  have hv1 := hv.only ho
  clear hn ho
  obtain rfl | rfl | rfl : c = 0 ∨ c = 1 ∨ c = 2 := by omega
  · simp only [ev, if_pos]
    go_wp2
    go_ret2
    exact ⟨v, _, rfl, .inl rfl, fun n h1 h2 => ⟨(Hn.out n h1 h2).1, rfl⟩, Ho.out⟩
  · rw [show ev 1 = .iface 115 (.int .i64 1) from rfl]
    obtain ⟨t, p, hr⟩ := hv1.rng
    have hte := te_range ⟨#[80, 97, 114, 115, 101, 73, 110, 116]⟩ s 16 64 _ w1 hs hr (.inr ⟨_, _, rfl⟩)
    go_wp2_with fail
    refine hte.mono ?_
    rintro e w2 ⟨N, rfl, h1, h2, h3⟩
    have H3 := Lib.hid h3
    clear h1 h2 h3
    go_wp2
    go_ret2
    exact ⟨v, _, rfl, .inr ⟨_, _, rfl⟩, fun n h1 h2 => absurd (Hn.out n h1 h2).2 (by decide), Ho.out.trans (Only.of_below H3.out _) (fun _ _ h => h)⟩
  · rw [show ev 2 = .iface 115 (.int .i64 2) from rfl]
    obtain ⟨t, p, hr⟩ := hv1.syn
    have hte := te_syntax ⟨#[80, 97, 114, 115, 101, 73, 110, 116]⟩ s 16 64 _ w1 hs hr (.inr ⟨_, _, rfl⟩)
    go_wp2_with fail
    refine hte.mono ?_
    rintro e w2 ⟨N, rfl, h1, h2, h3⟩
    have H3 := Lib.hid h3
    clear h1 h2 h3
    go_wp2
    go_ret2
    exact ⟨v, _, rfl, .inr ⟨_, _, rfl⟩, fun n h1 h2 => absurd (Hn.out n h1 h2).2 (by decide), Ho.out.trans (Only.of_below H3.out _) (fun _ _ h => h)⟩
end Go.Proofs.YtdacjomfipkpaaaDoor.SgW
