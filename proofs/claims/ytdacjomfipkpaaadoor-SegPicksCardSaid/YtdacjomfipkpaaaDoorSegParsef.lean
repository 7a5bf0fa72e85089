/- seg.Parse. -/
import Derived.Test.YtdacjomfipkpaaaDoorSegParsee
set_option linter.unusedVariables false
set_option linter.unusedSimpArgs false
namespace Go.Proofs.YtdacjomfipkpaaaDoor.SgW
open Go.RowKit Hp Sg

theorem name_any (v : Int) (w : World) (hv : Vs w) :
    Calls Tryd.prog 10 #[.int .i64 v] w
      fun e w' => ∃ s ok, e = .returned (.tuple #[.string s, .bool ok]) ∧ (ok = true → ∃ n : Nat, v = n ∧ n < 2 ^ 44 ∧ s = ⟨(nm n).toArray⟩) ∧ (∀ n : Nat, v = n → n < 2 ^ 44 → ok = true) ∧ Only (fun _ => False) w w' := by
  by_cases h : 0 ≤ v ∧ v < 2 ^ 44
  · obtain ⟨n, rfl⟩ : ∃ n : Nat, v = n := ⟨v.toNat, by omega⟩
    refine (name_in n (by omega) w hv.tab).mono ?_
    rintro e w' ⟨rfl, ho⟩
    exact ⟨_, _, rfl, fun _ => ⟨n, rfl, by omega, rfl⟩, fun _ _ _ => rfl, ho⟩
  · refine (name_out v (by omega) w).mono ?_
    rintro e w' ⟨rfl, rfl⟩
    exact ⟨_, _, rfl, (fun h => by cases h), (fun n h1 h2 => by omega), Only.refl _ _⟩

set_option maxRecDepth 100000 in
theorem parse (s : ByteArray) (hs : s.size ≤ 281474976710656) (w : World) (hv : Vs w) :
    Calls Tryd.prog 11 #[.string s] w
      fun e w' => e = .returned (.tuple #[.int .i64 ((sp s.data.toList).1 : Int), .bool (sp s.data.toList).2]) ∧ Only (fun _ => False) w w' := by
  have htr := trim_prefix s ⟨#[119, 45]⟩ w
  have hle : (ByteArray.mk (Lib.trimPrefix s.data.toList [119, 45]).toArray).size ≤ s.size := by
    show (Lib.trimPrefix s.data.toList [119, 45]).toArray.size ≤ s.data.size
    rw [List.size_toArray, ← Array.length_toList]
    exact Lib.trimPrefix_le _ _
  have hnm : ∀ n, s.data.toList = nm n → Lib.trimPrefix s.data.toList [119, 45] = pad 12 n := fun n h => by
    rw [h]; simp [Lib.trimPrefix, Lib.hasPrefix, nm]
  have htl : (ByteArray.mk (Lib.trimPrefix s.data.toList [119, 45]).toArray).data.toList = Lib.trimPrefix s.data.toList [119, 45] := by simp
  have htr' : Calls Tryd.prog 26 #[.string s, .string ⟨#[119, 45]⟩] w fun e w' => e = .returned (.string ⟨(Lib.trimPrefix s.data.toList [119, 45]).toArray⟩) ∧ w' = w := htr
  clear htr
  generalize hT : (ByteArray.mk (Lib.trimPrefix s.data.toList [119, 45]).toArray) = T at hle htl htr'
  clear hT
  go_enter Tryd.func11, Tryd.ntmps11
  go_wp2_with fail
  refine htr'.mono ?_
  rintro e w1 ⟨rfl, rfl⟩
  have Hhtl := Lib.hid htl
  have Hnm := Lib.hid hnm
  clear htl hnm htr'
  go_wp2_with fail
  refine (parseInt T (by omega) w1 hv).mono ?_
  rintro e w2 ⟨v, x, rfl, hx, hn, ho⟩
  have Hn := Lib.hid hn
  have Ho := Lib.hid ho
  have hv2 := hv.only ho
  clear hn ho
  go_wp2_with fail
  refine (name_any v w2 hv2).mono ?_
  rintro e w3 ⟨u, ok, rfl, hok, hall, ho3⟩
  have Hok := Lib.hid hok
  have Hall := Lib.hid hall
  have Hon := Lib.hid (Ho.out.trans ho3 (fun _ _ h => h))
  clear hok hall ho3 hv2
  have hbad : (x ≠ .nilIface ∨ ok = false ∨ u ≠ s) → sp s.data.toList = (0, false) := fun h => sp_not _ fun n h1 h2 => by
    have h3 := Hn.out n (by omega) (by rw [Hhtl.out, Hnm.out n h2.symm])
    have h4 := Hall.out n h3.1 h1
    rcases h with h | h | h
    · exact h h3.2
    · rw [h] at h4; cases h4
    · obtain ⟨m, e1, e2, e3⟩ := Hok.out h4
      have : m = n := by have := h3.1; omega
      subst this
      refine h ?_
      rw [e3]
      apply ByteArray.ext
      simp [h2]
  have Hbad := Lib.hid hbad
  clear hbad
  rcases hx with rfl | ⟨t, p, rfl⟩
  · cases ok with
    | false =>
      go_wp2
      go_ret2
      rw [Hbad.out (.inr (.inl (by simp)))]
      exact ⟨rfl, Hon.out⟩
    | true =>
      by_cases hus : u = s
      · subst hus
        obtain ⟨n, rfl, h2, h3⟩ := Hok.out rfl
        have hres : sp u.data.toList = (n, true) := by rw [h3]; simpa using sp_nm n h2
        have Hres := Lib.hid hres
        have ht : (u.toList == u.toList) = true := by simp
        clear hres h3
        go_wp2
        go_ret2
        rw [Hres.out]
        exact ⟨rfl, Hon.out⟩
      · have ht : (u.toList == s.toList) = false := by rw [str_tl]; simp [hus]
        go_wp2
        go_ret2
        rw [Hbad.out (.inr (.inr hus))]
        exact ⟨rfl, Hon.out⟩
  · go_wp2
    go_ret2
    rw [Hbad.out (.inl (by simp))]
    exact ⟨rfl, Hon.out⟩
end Go.Proofs.YtdacjomfipkpaaaDoor.SgW
