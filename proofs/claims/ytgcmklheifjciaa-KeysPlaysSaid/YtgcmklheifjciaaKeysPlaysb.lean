/- KeysPlays: its arguments opened. -/
import Derived.Test.YtgcmklheifjciaaKeysPlays
set_option linter.unusedVariables false
namespace Go.Proofs.Ytgcmklheifjciaa.KyL
open Go.RowKit Go.WideShapes Go.ChangeShapes Hp KyW

set_option maxRecDepth 100000 in
theorem plays_out (W : World) (mo : Int) (ad : Option Addr) (n cap : Nat) (h : 200 < n) (h2 : n ≤ maxLen) :
    Calls Try.prog 6 #[.int .i64 mo, .slice ad n cap] W (IsT W) := by
  have h3 : (200 : Int) < (n : Int) := by omega
  go_enter Try.func6, Try.ntmps6
  go_wp2_with (go_at_call 7; refine (awake _).mono ?_; rintro e w0 ⟨rfl, o0⟩)
  go_ret
  exact ⟨rfl, o0⟩

theorem cells_act : Try.prog.cellsOf 43 = 4 := by kernel_rfl
theorem cells_int : Try.prog.cellsOf 3 = 1 := by kernel_rfl
theorem cells_str : Try.prog.cellsOf 9 = 1 := by kernel_rfl

theorem read_act {H : Type} {enc : TypeId × Value → H} {W : World} {f : Nat} {cs : List Value} {y : DataW H × List MemPlace} (h : DataW.trod enc Try.prog W 0 (fun _ => true) true f 43 cs = some y) : ∃ z : Act, cs = actc z := by
  obtain ⟨c0, c1, c2, c3, rfl⟩ := Cf.list4 (Cf.struct_len Try.underlying43 cells_act h)
  obtain ⟨n0, y0, f0⟩ := Cf.field_of Try.underlying43 h (ty := 3) (off := 0) 0 rfl cells_int
  obtain ⟨n1, y1, f1⟩ := Cf.field_of Try.underlying43 h (ty := 3) (off := 1) 1 rfl cells_int
  obtain ⟨n2, y2, f2⟩ := Cf.field_of Try.underlying43 h (ty := 23) (off := 2) 2 rfl cells_key
  simp only [List.drop_zero, List.drop_succ_cons, List.take_succ_cons, List.take_zero] at f0 f1 f2
  obtain ⟨n3, y3, f3⟩ := Cf.field_of Try.underlying23 f2 (ty := 9) (off := 0) 0 rfl cells_str
  obtain ⟨n4, y4, f4⟩ := Cf.field_of Try.underlying23 f2 (ty := 9) (off := 1) 1 rfl cells_str
  simp only [List.drop_zero, List.drop_succ_cons, List.take_succ_cons, List.take_zero] at f3 f4
  obtain ⟨a0, rfl, _⟩ := Cf.leaf_int Try.underlying3 f0
  obtain ⟨a1, rfl, _⟩ := Cf.leaf_int Try.underlying3 f1
  obtain ⟨a2, rfl, _⟩ := Cf.leaf_str Try.underlying9 f3
  obtain ⟨a3, rfl, _⟩ := Cf.leaf_str Try.underlying9 f4
  exact ⟨⟨a0, a1, a2, a3⟩, rfl⟩
theorem plays_raw {H : Type} (enc : TypeId × Value → H) (W : World) (base : Nat) (v0 v1 : Value) {d0 d1 : DataW H} {p0 p1 : List MemPlace}
    (ok0 : Value.okWide Try.prog W .any base 3 v0) (ok1 : Value.okWide Try.prog W .any base 39 v1)
    (h0 : DataW.Trod enc Try.prog W 0 (fun _ => true) true 3 v0 d0 p0) (h1 : DataW.Trod enc Try.prog W 0 (fun _ => true) true 39 v1 d1 p1) :
    Calls Try.prog 6 #[v0, v1] W (IsT W) := by
  obtain ⟨x, rfl, _, _, wx⟩ := Go.ChangeShapes.open_int Try.underlying3 ok0 h0
  obtain ⟨ad, n, cap, rfl⟩ := okWide_slice Try.underlying39 ok1
  obtain ⟨fuel, hf⟩ := h1
  have hf' : DataW.trod enc Try.prog W 0 (fun _ => true) true fuel 39 [.slice ad n cap] = some (d1, p1) := hf
  obtain ⟨l, hl⟩ := Cf.open_list Try.underlying39 cells_act (by omega) actc (fun _ => rfl) hf' (fun f cs y h => read_act h)
  obtain ⟨ad', cap', he, _, _⟩ := hl.val
  cases he
  by_cases hc : l.length ≤ 200
  · exact plays_in W x (by simpa [Lit.wf, IntKind.min, IntKind.max, IntKind.signed, IntKind.bits] using wx) _ l hl hc
  · exact plays_out W x _ _ _ (by omega) (by omega)
end Go.Proofs.Ytgcmklheifjciaa.KyL
