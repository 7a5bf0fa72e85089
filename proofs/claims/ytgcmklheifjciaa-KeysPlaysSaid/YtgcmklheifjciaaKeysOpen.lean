/- The laws of chapter 17, their arguments opened off the readings. -/
import Derived.Test.YtgcmklheifjciaaKeysLaws
import Derived.Test.YtgcmklheifjciaaCf
set_option linter.unusedVariables false
namespace Go.Proofs.Ytgcmklheifjciaa.KyL
open Go.RowKit Go.WideShapes Go.ChangeShapes Go.Joins Hp KyW

theorem cells_key : Try.prog.cellsOf 23 = 2 := by kernel_rfl

/-- a Key by value -/
theorem open_key {H : Type} {enc : TypeId × Value → H} {W : World} {base : Nat} {v : Value} {d : DataW H} {p : List MemPlace} (ok : Value.okWide Try.prog W .any base 23 v) (h : DataW.Trod enc Try.prog W 0 (fun _ => true) true 23 v d p) :
    ∃ a b : ByteArray, v = .agg #[.string a, .string b] := by
  obtain ⟨c0, c1, y0, y1, m, rfl, rfl, rfl, hy0, hy1⟩ := open_agg2 Try.underlying23 (by kernel_rfl) cells_key ok h
  obtain ⟨a, e0, _⟩ := DataW.trod_string Try.underlying9 hy0
  obtain ⟨b, e1, _⟩ := DataW.trod_string Try.underlying9 hy1
  simp at e0 e1
  subst e0 e1
  exact ⟨a, b, rfl⟩

theorem apart_raw {H : Type} (enc : TypeId × Value → H) (W : World) (base : Nat) (v0 v1 v2 v3 : Value) {d0 d1 d2 d3 : DataW H} {p0 p1 p2 p3 : List MemPlace}
    (ok0 : Value.okWide Try.prog W .any base 23 v0) (ok1 : Value.okWide Try.prog W .any base 23 v1) (ok2 : Value.okWide Try.prog W .any base 3 v2) (ok3 : Value.okWide Try.prog W .any base 3 v3)
    (h0 : DataW.Trod enc Try.prog W 0 (fun _ => true) true 23 v0 d0 p0) (h1 : DataW.Trod enc Try.prog W 0 (fun _ => true) true 23 v1 d1 p1)
    (h2 : DataW.Trod enc Try.prog W 0 (fun _ => true) true 3 v2 d2 p2) (h3 : DataW.Trod enc Try.prog W 0 (fun _ => true) true 3 v3 d3 p3) :
    Calls Try.prog 3 #[v0, v1, v2, v3] W (IsT W) := by
  obtain ⟨a1, a2, rfl⟩ := open_key ok0 h0
  obtain ⟨b1, b2, rfl⟩ := open_key ok1 h1
  obtain ⟨x, rfl, _⟩ := open_int Try.underlying3 ok2 h2
  obtain ⟨y, rfl, _⟩ := open_int Try.underlying3 ok3 h3
  exact apart W a1 a2 b1 b2 x y
end Go.Proofs.Ytgcmklheifjciaa.KyL
