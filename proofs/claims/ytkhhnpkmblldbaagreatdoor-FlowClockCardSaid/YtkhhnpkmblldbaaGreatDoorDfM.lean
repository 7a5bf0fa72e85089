/- Plain law: parts of texts. No conditions. -/
import Derived.Test.YtkhhnpkmblldbaaGreatDoorTrimWalk
import Derived.Test.YtkhhnpkmblldbaaGreatDoorAm16
import Derived.Lib.ItoaNum
import Derived.Test.YtkhhnpkmblldbaaGreatDoorAm13
import Derived.Handed
import Derived.Test.YtkhhnpkmblldbaaGreatDoorProg
namespace Go.Proofs.YtkhhnpkmblldbaaGreatDoor.DfM
open Go Am
set_option linter.unusedVariables false
set_option linter.unusedSimpArgs false
abbrev Str := List Nat
end Go.Proofs.YtkhhnpkmblldbaaGreatDoor.DfM
namespace Go.Proofs.YtkhhnpkmblldbaaGreatDoor.DfK
open Go Am Am.K DfEnv DfM
set_option linter.unusedVariables false
set_option linter.unusedSimpArgs false
set_option maxRecDepth 10000
def ixo : Option Nat → Int
  | some i => i
  | none => -1
/-- a text cut at its first byte c -/
def cut (c : Nat) (s : Str) : Str × Str × Bool := match idxB c s 0 with
  | some i => (s.take i, s.drop (i + 1), true)
  | none => (s, [], false)
/-! strings.Split -/
def strs (l : List Str) : List AV := l.map .str
end Go.Proofs.YtkhhnpkmblldbaaGreatDoor.DfK
namespace Go.Proofs.YtkhhnpkmblldbaaGreatDoor.DfK
open Go Am Am.K DfEnv DfM
set_option linter.unusedVariables false
set_option linter.unusedSimpArgs false
set_option maxRecDepth 10000
def ints (l : List Int) : List AV := l.map fun z => .int .i64 z
theorem ints_len (l : List Int) : (ints l).length = l.length := by simp [ints]
theorem ints_get {l : List Int} {j : Nat} {z : Int} (h : l[j]? = some z) : (ints l)[j]? = some (.int .i64 z) := by simp [ints, h]
theorem ixo_ge (o : Option Nat) : decide ((0 : Int) ≤ ixo o) = o.isSome := by
  cases o with
  | none => rfl
  | some i => exact decide_eq_true (by show (0 : Int) ≤ (i : Int); omega)
theorem wrap_s {i n : Nat} (h : i < n) (hn : n ≤ 16777216) : IntKind.wrap .i64 ((i : Int) + 1) = ((i + 1 : Nat) : Int) := by rw [wrap_i64 (by omega) (by omega)]; rfl
theorem lt_t {i n : Nat} (h : i < n) : decide (((i : Nat) : Int) < ((n : Nat) : Int)) = true := decide_eq_true (by omega)
theorem lt_f {n : Nat} : decide (((n : Nat) : Int) < ((n : Nat) : Int)) = false := decide_eq_false (by omega)
theorem drop_nil {α : Type} {l : List α} {i : Nat} (hi : i ≤ l.length) (h : l.drop i = []) : i = l.length := by
  have := congrArg List.length h
  rw [List.length_drop, List.length_nil] at this; omega

end Go.Proofs.YtkhhnpkmblldbaaGreatDoor.DfK
namespace Go.Proofs.YtkhhnpkmblldbaaGreatDoor.DfK
open Go Am Am.K DfEnv DfM LibP
set_option linter.unusedVariables false
set_option linter.unusedSimpArgs false
set_option maxRecDepth 10000
/-- what is read of the listed variables -/
structure Gl (H : Hp) : Prop where
  pow : ∀ i : Nat, i < 20 → cellAt H 0 i = some (.int .u64 ((10 ^ i : Nat) : Int))
  err : ErrA H
  nx : 11 ≤ H.next
theorem hasT_cell {H : Hp} {L : List (Nat × List AV)} (h : hasT H L) {g : Nat} {l : List AV} (hm : (g, l) ∈ L) {k : Nat} {v : AV} (hk : l[k]? = some v) : cellAt H g k = some v := by
  obtain ⟨el, h⟩ := h
  have h1 := h g l hm
  have hkl := (List.getElem?_eq_some_iff.1 hk).1
  unfold cellAt
  rw [h1]
  have hb : (Nat.ble 0 k && Nat.blt k l.length) = true := by
    rw [Bool.and_eq_true, Nat.ble_eq, Nat.blt_eq]; omega
  simp only [hb, cond_true]
  rw [get_puts_k, if_pos (by omega)]
  exact hk
theorem pow_at : ∀ i : Fin 20, (pow10.map (AV.int .u64))[i.val]? = some (.int .u64 ((10 ^ i.val : Nat) : Int)) := by
  intro i
  match i with
  | ⟨0, _⟩ => rfl
  | ⟨1, _⟩ => rfl
  | ⟨2, _⟩ => rfl
  | ⟨3, _⟩ => rfl
  | ⟨4, _⟩ => rfl
  | ⟨5, _⟩ => rfl
  | ⟨6, _⟩ => rfl
  | ⟨7, _⟩ => rfl
  | ⟨8, _⟩ => rfl
  | ⟨9, _⟩ => rfl
  | ⟨10, _⟩ => rfl
  | ⟨11, _⟩ => rfl
  | ⟨12, _⟩ => rfl
  | ⟨13, _⟩ => rfl
  | ⟨14, _⟩ => rfl
  | ⟨15, _⟩ => rfl
  | ⟨16, _⟩ => rfl
  | ⟨17, _⟩ => rfl
  | ⟨18, _⟩ => rfl
  | ⟨19, _⟩ => rfl
  | ⟨n + 20, h⟩ => omega
theorem Gl.of {H : Hp} (h : hasT H begin0) (hn : 11 ≤ H.next) : Gl H where
  pow := fun i hi => hasT_cell h (l := pow10.map (AV.int .u64)) (by unfold begin0; simp) (pow_at ⟨i, hi⟩)
  err := ⟨⟨_, _, hasT_cell h (g := 6) (k := 0) (by unfold begin0; simp; rfl) rfl⟩, ⟨_, _, hasT_cell h (g := 7) (k := 0) (by unfold begin0; simp; rfl) rfl⟩⟩
  nx := hn
theorem Gl.out {H H' : Hp} {S : List Nat} (h : Gl H) (k : Out S H H') (hs : ∀ j ∈ S, 11 ≤ j) : Gl H' where
  pow := fun i hi => by
    rw [k.cellAt (by have := h.nx; omega) (fun q => by have := hs _ q; omega)]
    exact h.pow i hi
  err := by
    have hn := h.nx
    refine ⟨?_, ?_⟩
    · obtain ⟨t, p, q⟩ := h.err.syn
      exact ⟨t, p, by rw [k.cellAt (by omega) (fun q => by have := hs _ q; omega)]; exact q⟩
    · obtain ⟨t, p, q⟩ := h.err.rng
      exact ⟨t, p, by rw [k.cellAt (by omega) (fun q => by have := hs _ q; omega)]; exact q⟩
  nx := Nat.le_trans h.nx k.1
theorem Gl.out0 {H H' : Hp} (h : Gl H) (k : Out [] H H') : Gl H' := h.out k fun j hj => by cases hj
/-! strings.Trim -/
theorem trim_c (s c : List Nat) (H : Hp) (hs : s.length ≤ 4294967296) (hc : lowC c = true) (hcl : c.length ≤ 4294967280) : cK (.func (.func 96) [] []) [.str s, .str c] H = some (.str (trimN s c), H) := by
  refine ck_prim (p := trimP) (by kernel_rfl) ?_
  have h2 : F.bothB (lowC c) (F.bothB (Nat.ble (F.lenL s) 4294967296) (Nat.ble (F.lenL c) 4294967280)) = true := by
    rw [F.bothB_eq, F.bothB_eq, F.lenL_eq, F.lenL_eq, hc]
    simp only [Bool.true_and, Bool.and_eq_true, Nat.ble_eq]
    exact ⟨hs, hcl⟩
  show trim2 H s c = _
  unfold trim2
  rw [h2]
/-! strconv.Itoa -/
/-- a number's decimals -/
def dec (n : Int) : Str := (Lib.itoa n).map (·.toNat)
abbrev sm : List Nat := [48, 48, 48, 49, 48, 50, 48, 51, 48, 52, 48, 53, 48, 54, 48, 55, 48, 56, 48, 57, 49, 48, 49, 49, 49, 50, 49, 51, 49, 52, 49, 53, 49, 54, 49, 55, 49, 56, 49, 57, 50, 48, 50, 49, 50, 50, 50, 51, 50, 52, 50, 53, 50, 54, 50, 55, 50, 56, 50, 57, 51, 48, 51, 49, 51, 50, 51, 51, 51, 52, 51, 53, 51, 54, 51, 55, 51, 56, 51, 57, 52, 48, 52, 49, 52, 50, 52, 51, 52, 52, 52, 53, 52, 54, 52, 55, 52, 56, 52, 57, 53, 48, 53, 49, 53, 50, 53, 51, 53, 52, 53, 53, 53, 54, 53, 55, 53, 56, 53, 57, 54, 48, 54, 49, 54, 50, 54, 51, 54, 52, 54, 53, 54, 54, 54, 55, 54, 56, 54, 57, 55, 48, 55, 49, 55, 50, 55, 51, 55, 52, 55, 53, 55, 54, 55, 55, 55, 56, 55, 57, 56, 48, 56, 49, 56, 50, 56, 51, 56, 52, 56, 53, 56, 54, 56, 55, 56, 56, 56, 57, 57, 48, 57, 49, 57, 50, 57, 51, 57, 52, 57, 53, 57, 54, 57, 55, 57, 56, 57, 57]
end Go.Proofs.YtkhhnpkmblldbaaGreatDoor.DfK
namespace Go.Proofs.YtkhhnpkmblldbaaGreatDoor.DfK
open Go Am Am.K DfEnv DfM LibP
set_option linter.unusedVariables false
set_option linter.unusedSimpArgs false
set_option maxRecDepth 10000
end Go.Proofs.YtkhhnpkmblldbaaGreatDoor.DfK
namespace Go.Proofs.YtkhhnpkmblldbaaGreatDoor.DfG
set_option linter.unusedVariables false
set_option linter.unusedSimpArgs false
theorem countP_le {p q : Nat → Bool} (h : ∀ x, p x = true → q x = true) (l : List Nat) : l.countP p ≤ l.countP q :=
  List.countP_mono_left fun x _ hx => h x hx
theorem countP_lt {p q : Nat → Bool} (h : ∀ x, p x = true → q x = true) {a : Nat} (hq : q a = true) (hp : p a = false) : ∀ l : List Nat, a ∈ l → l.countP p < l.countP q
  | [], hm => by cases hm
  | b :: l, hm => by
    rw [List.countP_cons, List.countP_cons]
    have hle := countP_le h l
    rcases List.mem_cons.1 hm with rfl | hm
    · rw [hq, hp]; simp; omega
    · have hlt := countP_lt h hq hp l hm
      cases hpb : p b with
      | true => rw [h b hpb]; simp; omega
      | false => cases q b <;> simp <;> omega
/-! the search: sc tells the nodes behind one -/
section
variable (sc : Nat → List Nat)
def exp1 (steps : Nat) (s : List Nat × List Nat) (b : Nat) : List Nat × List Nat := if s.1[b]? = some 0 then (s.1.set b steps, s.2 ++ [b]) else s
def expd (steps : Nat) (bs : List Nat) (s : List Nat × List Nat) : List Nat × List Nat := bs.foldl (exp1 steps) s
def lev (steps : Nat) (l : List Nat) (s : List Nat × List Nat) : List Nat × List Nat := l.foldl (fun s a => expd steps (sc a) s) s
def farL : Nat → List Nat → List Nat → Nat → List Nat
  | 0, _, out, _ => out
  | f + 1, l, out, steps => if l = [] then out else farL f (lev sc steps l (out, [])).2 (lev sc steps l (out, [])).1 (steps + 1)
def far (N n : Nat) : List Nat := farL sc (N + 1) [n] (List.replicate N 0) 1
end
def zeros (l : List Nat) : Nat := l.countP (· == 0)
/-- found -/
def V (out : List Nat) (b : Nat) : Bool := match out[b]? with | some (_ + 1) => true | _ => false
structure Step (s s' : List Nat × List Nat) (bs : Nat → Prop) : Prop where
  len : s'.1.length = s.1.length
  zer : zeros s'.1 + s'.2.length = zeros s.1 + s.2.length
  mono : ∀ c, V s.1 c = true → V s'.1 c = true
  keep : ∀ c ∈ s.2, c ∈ s'.2
  new : ∀ c, V s'.1 c = true → V s.1 c = true ∨ (bs c ∧ c ∈ s'.2)
  from' : ∀ c ∈ s'.2, c ∈ s.2 ∨ (bs c ∧ V s'.1 c = true)
  all : ∀ c, bs c → c < s.1.length → V s'.1 c = true
theorem Step.refl (s : List Nat × List Nat) : Step s s (fun _ => False) := ⟨rfl, rfl, fun _ h => h, fun _ h => h, fun _ h => .inl h, fun _ h => .inl h, fun _ h => h.elim⟩
theorem Step.trans {s s' s'' : List Nat × List Nat} {p q : Nat → Prop} (h : Step s s' p) (k : Step s' s'' q) : Step s s'' (fun c => p c ∨ q c) where
  len := k.len.trans h.len
  zer := k.zer.trans h.zer
  mono := fun c hc => k.mono c (h.mono c hc)
  keep := fun c hc => k.keep c (h.keep c hc)
  new := fun c hc => (k.new c hc).elim (fun a => (h.new c a).imp id fun b => ⟨.inl b.1, k.keep c b.2⟩) (fun a => .inr ⟨.inr a.1, a.2⟩)
  from' := fun c hc => (k.from' c hc).elim (fun a => (h.from' c a).imp id fun b => ⟨.inl b.1, k.mono c b.2⟩) (fun a => .inr ⟨.inr a.1, a.2⟩)
  all := fun c hc hl => hc.elim (fun a => k.mono c (h.all c a hl)) (fun a => k.all c a (by rw [h.len]; exact hl))
theorem Step.congr {s s' : List Nat × List Nat} {p q : Nat → Prop} (h : Step s s' p) (hpq : ∀ c, p c ↔ q c) : Step s s' q :=
  ⟨h.len, h.zer, h.mono, h.keep, fun c hc => (h.new c hc).imp id fun b => ⟨(hpq c).1 b.1, b.2⟩, fun c hc => (h.from' c hc).imp id fun b => ⟨(hpq c).1 b.1, b.2⟩, fun c hc hl => h.all c ((hpq c).2 hc) hl⟩
end Go.Proofs.YtkhhnpkmblldbaaGreatDoor.DfG
namespace Go.Proofs.YtkhhnpkmblldbaaGreatDoor.DfK
open Go Am Am.K DfEnv DfM LibP
set_option linter.unusedVariables false
set_option linter.unusedSimpArgs false
set_option maxRecDepth 10000
/-! edges -/
abbrev Ed := Nat × Nat
/-- a graph, asV a value -/
abbrev gv (N : Nat) (x : AV) : AV := .agg [.int .i64 N, x]
/-! the nodes beside one -/
/-- the other end of the edges whose one end is n -/
def besN (E : List Ed) (n : Nat) (end1 : Bool) : List Nat := E.filterMap fun e => if (bif end1 then e.2 else e.1) = n then some (bif end1 then e.1 else e.2) else none
end Go.Proofs.YtkhhnpkmblldbaaGreatDoor.DfK
namespace Go.Proofs.YtkhhnpkmblldbaaGreatDoor.DfK
open Go Am Am.K DfEnv DfM LibP DfG
set_option linter.unusedVariables false
set_option linter.unusedSimpArgs false
set_option maxRecDepth 10000
def sortN (l : List Nat) : List Nat := l.mergeSort fun x y => decide (x ≤ y)
/-- the nodes beside one, in order -/
def bes (E : List Ed) (n : Nat) (b : Bool) : List Nat := sortN (besN E n b)
/-! far: the innermost loop marks the nodes behind one -/
end Go.Proofs.YtkhhnpkmblldbaaGreatDoor.DfK
namespace Go.Proofs.YtkhhnpkmblldbaaGreatDoor.DfK
open Go Am Am.K DfEnv DfM LibP DfG
set_option linter.unusedVariables false
set_option linter.unusedSimpArgs false
set_option maxRecDepth 10000
abbrev fa' (E : List Ed) (N n : Nat) : List Nat := far (fun n => bes E n false) N n
/-- how far a node is from itself -/
def selfD (E : List Ed) (N n : Nat) : Nat := (fa' E N n).getD n 0
/-- has the graph no cycle? -/
def noCyc (N : Nat) (E : List Ed) : Prop := ∀ n, n < N → selfD E N n = 0
/-! topo.Order -/
end Go.Proofs.YtkhhnpkmblldbaaGreatDoor.DfK
namespace Go.Proofs.YtkhhnpkmblldbaaGreatDoor.DfK
open Go Am Am.K DfEnv DfM LibP DfG
set_option linter.unusedVariables false
set_option linter.unusedSimpArgs false
set_option maxRecDepth 10000
abbrev alN : Str := [97, 98, 99, 100, 101, 102, 103, 104, 105, 106, 107, 108, 109, 110, 111, 112, 113, 114, 115, 116, 117, 118, 119, 120, 121, 122, 48, 49, 50, 51, 52, 53, 54, 55, 56, 57]
/-- a name may be so -/
noncomputable def okN (s : Str) : Bool := !(s == []) && (decide ((s.length : Int) ≤ 16) && (trimN s alN == []))
theorem name_c (s : Str) (H : Hp) : cK (.func (.func 60) [] []) [.str s] H = some (.bool (okN s), H) := by
  refine c_def_Name ?_
  unfold s_def_Name okN
  cases h0 : (s == []) with
  | true => simp only [h0, Bool.not_true, Bool.false_and, k_s, k_x, Int.reduceBEq, Int.reduceBNe, Int.reduceLT, Int.reduceLE, Int.reduceGT, Int.reduceGE, Int.reduceNeg]
  | false =>
    by_cases h1 : (s.length : Int) ≤ 16
    · have ht := trim_c s alN H (by omega) (by decide) (by decide)
      simp only [h0, h1, ht, Bool.true_and, k_s, k_x, Int.reduceBEq, Int.reduceBNe, Int.reduceLT, Int.reduceLE, Int.reduceGT, Int.reduceGE, Int.reduceNeg]
    · simp only [h0, h1, Bool.true_and, Bool.false_and, k_s, k_x, Int.reduceBEq, Int.reduceBNe, Int.reduceLT, Int.reduceLE, Int.reduceGT, Int.reduceGE, Int.reduceNeg]
/-! tasks -/
structure Tk where
  name : Str
  after : List Int
  retry : Int
  wait : Int
  base : Int
  on : Str
  deriving DecidableEq
def tkC (t : Tk) (x : AV) : List AV := [.str t.name, x, .int .i64 t.retry, .int .i64 t.wait, .int .i64 t.base, .str t.on]
def fpD (dx : AV) (xs : List AV) : List Nat := rid dx ++ xs.flatMap rid
/-- a definition's row of tasks -/
structure RD (H : Hp) (dx : AV) (xs : List AV) (ts : List Tk) : Prop where
  len : xs.length = ts.length
  row : RL H 6 dx (List.zipWith tkC ts xs)
  aft : ∀ (i : Nat) (x : AV) (t : Tk), xs[i]? = some x → ts[i]? = some t → Rw H 1 x (ints t.after)
theorem RD.out {H H' : Hp} {dx : AV} {xs : List AV} {ts : List Tk} {S : List Nat} (h : RD H dx xs ts) (k : Out S H H') (hs : ∀ j ∈ fpD dx xs, j ∉ S) : RD H' dx xs ts :=
  ⟨h.len, h.row.out k fun j hj => hs j (List.mem_append_left _ hj), fun i x t hx ht => (h.aft i x t hx ht).out k fun j hj => hs j (List.mem_append_right _ (List.mem_flatMap.2 ⟨x, List.mem_of_getElem? hx, hj⟩))⟩
theorem RD.out0 {H H' : Hp} {dx : AV} {xs : List AV} {ts : List Tk} (h : RD H dx xs ts) (k : Out [] H H') : RD H' dx xs ts := h.out k fun _ _ q => by cases q
theorem RD.lt {H : Hp} {dx : AV} {xs : List AV} {ts : List Tk} (h : RD H dx xs ts) : ∀ j ∈ fpD dx xs, j < H.next := by
  intro j hj
  rcases List.mem_append.1 hj with hj | hj
  · exact h.row.1.lt j hj
  · obtain ⟨x, hx, hj⟩ := List.mem_flatMap.1 hj
    obtain ⟨i, hi⟩ := List.getElem?_of_mem hx
    have hit : i < ts.length := by rw [← h.len]; exact (List.getElem?_eq_some_iff.1 hi).1
    exact (h.aft i x _ hi (List.getElem?_eq_getElem hit)).lt j hj
theorem RD.at {H : Hp} {dx : AV} {xs : List AV} {ts : List Tk} (h : RD H dx xs ts) {i : Nat} {t : Tk} (ht : ts[i]? = some t) :
    ∃ x b o, xs[i]? = some x ∧ oneC x = true ∧ Rw H 1 x (ints t.after) ∧ (∀ k, ia 6 dx (.int k i) = some (.ptr b o)) ∧ b < H.next ∧ cellsAt H b o 6 = some (tkC t x) ∧ cellAt H b o = some (.str t.name) := by
  have hi := (List.getElem?_eq_some_iff.1 ht).1
  have hx : xs[i]? = some (xs[i]'(by rw [h.len]; exact hi)) := List.getElem?_eq_getElem _
  have hw := h.aft i _ t hx ht
  have hz : (List.zipWith tkC ts xs)[i]? = some (tkC t (xs[i]'(by rw [h.len]; exact hi))) := by rw [List.getElem?_zipWith, ht, hx]
  obtain ⟨b, o, h1, h2, h3, h4, h5⟩ := h.row.at (by decide) hz
  exact ⟨_, b, o, hx, hw.one, hw, h1, h3, h4, by have := h5 0 _ rfl; rw [Nat.add_zero] at this; exact this⟩
theorem RD.lenx {H : Hp} {dx : AV} {xs : List AV} {ts : List Tk} (h : RD H dx xs ts) : lenx dx = some (.int .i64 (ts.length : Nat)) := by
  have := h.row.len (by decide)
  rw [List.length_zipWith, h.len, Nat.min_self] at this
  exact this
/-! Good's tests -/
noncomputable def odd1 (t : Tk) : Bool := !okN t.name || (!(t.on == []) && !okN t.on)
theorem tk_len (t : Tk) (x : AV) : (tkC t x).length = 6 := rfl
end Go.Proofs.YtkhhnpkmblldbaaGreatDoor.DfK
namespace Go.Proofs.YtkhhnpkmblldbaaGreatDoor.DfK
open Go Am Am.K DfEnv DfM LibP DfG
set_option linter.unusedVariables false
set_option linter.unusedSimpArgs false
set_option maxRecDepth 10000
/-! names that stand twice -/
def names (ts : List Tk) : List Str := ts.map (·.name)
/-! edges in a row -/
/-! def.Graph -/
/-! def.Good -/
end Go.Proofs.YtkhhnpkmblldbaaGreatDoor.DfK
namespace Go.Proofs.YtkhhnpkmblldbaaGreatDoor.DfK
open Go Am Am.K DfEnv DfM LibP DfG
set_option linter.unusedVariables false
set_option linter.unusedSimpArgs false
set_option maxRecDepth 10000
noncomputable def p1 (ts : List Tk) (i : Nat) : Bool := match ts[i]? with | some t => odd1 t | none => false
instance (N : Nat) (E : List Ed) : Decidable (noCyc N E) := by unfold noCyc; infer_instance
end Go.Proofs.YtkhhnpkmblldbaaGreatDoor.DfK
namespace Go.Proofs.YtkhhnpkmblldbaaGreatDoor.DfK
open Go Am Am.K DfEnv DfM LibP DfG
set_option linter.unusedVariables false
set_option linter.unusedSimpArgs false
set_option maxRecDepth 10000
/-- a task that is being read: its cells, and its own row -/
structure TO (H : Hp) (p : Nat) (t : Tk) (x : AV) : Prop where
  c : Cs H p (tkC t x) 107 0
  o : Ow H 3 1 x (ints t.after)
  ne : p ∉ rid x
theorem TO.out0 {H H' : Hp} {p : Nat} {t : Tk} {x : AV} (h : TO H p t x) (k : Out [] H H') : TO H' p t x := ⟨h.c.out k (by simp), h.o.out k (by simp), h.ne⟩
theorem TO.st {H : Hp} {p : Nat} {t : Tk} {x : AV} (h : TO H p t x) (o : Nat) (ho : o < 6) (v : AV) (hv : oneC v = true) (t' : Tk) (ht : (tkC t x).set o v = tkC t' x) (ha : t'.after = t.after) :
    ∃ H', st 1 (.ptr p o) v H = some H' ∧ TO H' p t' x ∧ Out [p] H H' := by
  obtain ⟨H', w1, w2, w3, w4⟩ := st1 h.c (by decide) (o := o) (by rw [tk_len]; exact ho) hv
  rw [ht] at w2
  exact ⟨H', w1, ⟨w2, by rw [ha]; exact h.o.out w3 fun j hj => by rw [List.mem_singleton]; intro e; subst e; exact h.ne hj, h.ne⟩, w3⟩
end Go.Proofs.YtkhhnpkmblldbaaGreatDoor.DfK
namespace Go.Proofs.YtkhhnpkmblldbaaGreatDoor.DfK
open Go Am Am.K DfEnv DfM LibP DfG
set_option linter.unusedVariables false
set_option linter.unusedSimpArgs false
set_option maxRecDepth 10000
theorem stAll {H : Hp} {i n el : Nat} {l vs : List AV} (h : Cs H i l el 0) (hn : n = vs.length) (hl : l.length = vs.length) (hv : vs.all oneC = true) : ∃ H', st n (.ptr i 0) (.agg vs) H = some H' ∧ Cs H' i vs el 0 ∧ Out [i] H H' ∧ H'.next = H.next := by
  obtain ⟨hi, c, hc, hg⟩ := h
  obtain ⟨H', c', q1, q2, q3, q4, q5⟩ := setCells_get vs H i 0 c 0 l.length el 0 hc (by omega) (Nat.le_refl _) (by omega) (fun k hk => by rw [Nat.zero_add, hg k (l[k]'(by omega)) (List.getElem?_eq_getElem (by omega))]; rfl) (List.all_eq_true.1 hv)
  refine ⟨H', ?_, ⟨by omega, c', ?_, fun k v hk => ?_⟩, ⟨by omega, fun j hj hn => q4 j (by simpa using hn)⟩, q2⟩
  · unfold st
    have : Nat.beq n vs.length = true := by subst hn; exact Nat.beq_refl _
    simp only [cellsV_agg, this, cond_true]
    exact q1
  · rw [q3, hl]
  · have := (List.getElem?_eq_some_iff.1 hk).1
    rw [q5, if_pos (by omega), Nat.sub_zero]; exact hk
end Go.Proofs.YtkhhnpkmblldbaaGreatDoor.DfK
namespace Go.Proofs.YtkhhnpkmblldbaaGreatDoor.DfK
open Go Am Am.K DfEnv DfM LibP DfG
set_option linter.unusedVariables false
set_option linter.unusedSimpArgs false
set_option maxRecDepth 10000
theorem RD.nil (H : Hp) : RD H .slice0 [] [] := ⟨rfl, RL.nil H 6, fun i x t h => by simp at h⟩
end Go.Proofs.YtkhhnpkmblldbaaGreatDoor.DfK
namespace Go.Proofs.YtkhhnpkmblldbaaGreatDoor.Am.K
open Go
set_option linter.unusedVariables false
set_option linter.unusedSimpArgs false
theorem setR_left : ∀ (vs c r : List AV) (k : Nat), k + vs.length ≤ c.length → setR (c ++ r) k vs = setR c k vs ++ r
  | [], c, r, k, h => rfl
  | v :: vs, c, r, k, h => by
    simp only [List.length_cons] at h
    show setR ((c ++ r).set k v) (k + 1) vs = setR (c.set k v) (k + 1) vs ++ r
    rw [List.set_append_left _ _ (by omega)]
    exact setR_left vs _ _ _ (by rw [List.length_set]; omega)
theorem setR_right : ∀ (vs a r : List AV) (k : Nat), setR (a ++ r) (a.length + k) vs = a ++ setR r k vs
  | [], a, r, k => rfl
  | v :: vs, a, r, k => by
    show setR ((a ++ r).set (a.length + k) v) (a.length + k + 1) vs = a ++ setR (r.set k v) (k + 1) vs
    rw [List.set_append_right _ _ (by omega), Nat.add_sub_cancel_left, Nat.add_assoc]
    exact setR_right vs _ _ _
theorem flatten_set {es : Nat} {vs : List AV} {k : Nat} (hk : k + vs.length ≤ es) : ∀ {L : List (List AV)} {i : Nat} {c : List AV}, (∀ c ∈ L, c.length = es) → L[i]? = some c → (L.set i (setR c k vs)).flatten = setR L.flatten (i * es + k) vs
  | [], i, c, _, h => by simp at h
  | a :: L, 0, c, hl, h => by
    simp only [List.getElem?_cons_zero, Option.some.injEq] at h
    subst h
    have := hl a (.head _)
    rw [Nat.zero_mul, Nat.zero_add]
    show setR a k vs ++ L.flatten = setR (a ++ L.flatten) k vs
    rw [setR_left _ _ _ _ (by omega)]
  | a :: L, i + 1, c, hl, h => by
    simp only [List.getElem?_cons_succ] at h
    have ha := hl a (.head _)
    show a ++ (L.set i (setR c k vs)).flatten = setR (a ++ L.flatten) ((i + 1) * es + k) vs
    rw [flatten_set hk (fun d hd => hl d (.tail _ hd)) h, Nat.add_mul, Nat.one_mul, show i * es + es + k = a.length + (i * es + k) by omega, setR_right]
/-- cells of one part set in place -/
theorem OL.stAt {H : Hp} {el es : Nat} {x : AV} {L : List (List AV)} (h : OL H el es x L) {i k b o : Nat} {c vs : List AV} (hi : L[i]? = some c) (hia : ∀ kd, ia es x (.int kd i) = some (.ptr b o)) (hv : ∀ v ∈ vs, oneC v = true) (hk : k + vs.length ≤ es) (hes : 0 < es) :
    ∃ H', setCells H b (o + k) vs = some H' ∧ OL H' el es x (L.set i (setR c k vs)) ∧ Out (rid x) H H' ∧ H'.next = H.next := by
  obtain ⟨ho, hl⟩ := h
  have hil := (List.getElem?_eq_some_iff.1 hi).1
  have hfl := flatten_len hl
  have hfs := flatten_set hk hl hi
  have hc := hl c (List.mem_of_getElem? hi)
  have hpos : i * es + es ≤ L.flatten.length := by
    rw [hfl]
    have := Nat.mul_le_mul_right es (show i + 1 ≤ L.length by omega)
    rw [Nat.add_mul, Nat.one_mul] at this
    exact this
  have hL' : ∀ d ∈ L.set i (setR c k vs), d.length = es := fun d hd => by
    rcases List.mem_or_eq_of_mem_set hd with hd | rfl
    · exact hl d hd
    · rw [setR_len]; exact hc
  generalize hF : L.flatten = F at *
  cases ho with
  | nil => simp at hpos; omega
  | emp => simp at hpos; omega
  | @mk i0 off n cap ex _ ct lo hi0 fl hi' hg hf hlo hhi hcap hn hcc hs h1 he =>
    have hin : i < n := by
      rw [hfl] at hn
      exact Nat.eq_of_mul_eq_mul_right hes hn ▸ hil
    have e := hia .i64
    rw [ia_s hin] at e
    injection e with e
    injection e with eb eo
    subst eb
    subst eo
    have hcn : n * es ≤ cap * es := Nat.mul_le_mul_right _ hcap
    obtain ⟨H', c', q1, q2, q3, q4, q5⟩ := setCells_get vs H i0 (off + i * es + k) ct lo hi0 el fl hg hf (by omega) (by omega) (fun m hm => by
      have := hs (i * es + k + m) (by omega)
      rw [show off + i * es + k + m = off + (i * es + k + m) by omega]
      exact this) hv
    refine ⟨H', q1, ⟨?_, hL'⟩, ⟨by omega, fun j hj hn' => q4 j fun e => hn' (by subst e; rw [rid_s he]; exact .head _)⟩, q2⟩
    rw [hfs]
    refine .mk (by omega) q3 hf hlo hhi hcap (by rw [setR_len]; exact hn) (fun m w hm => ?_) (fun m hm => ?_) (fun w hw => ?_) he
    · rw [q5]
      rw [setR_get _ _ _ _ (by omega)] at hm
      split at hm
      · rw [if_pos (by omega), show off + m - (off + i * es + k) = m - (i * es + k) by omega]; exact hm
      · rw [if_neg (by omega)]; exact hcc m w hm
    · rw [q5]
      split
      · rename_i hb
        rw [List.getElem?_eq_getElem (by omega)]; rfl
      · exact hs m hm
    · obtain ⟨m, hm⟩ := List.getElem?_of_mem hw
      rw [setR_get _ _ _ _ (by omega)] at hm
      split at hm
      · exact hv w (List.mem_of_getElem? hm)
      · exact h1 w (List.mem_of_getElem? hm)
theorem OL.st1 {H : Hp} {el es : Nat} {x : AV} {L : List (List AV)} (h : OL H el es x L) {i k b o : Nat} {c : List AV} {v : AV} (hi : L[i]? = some c) (hia : ∀ kd, ia es x (.int kd i) = some (.ptr b o)) (hv : oneC v = true) (hk : k < es) :
    ∃ H', st 1 (.ptr b (o + k)) v H = some H' ∧ OL H' el es x (L.set i (c.set k v)) ∧ Out (rid x) H H' ∧ H'.next = H.next := by
  obtain ⟨H', h1, h2⟩ := h.stAt (k := k) (vs := [v]) hi hia (fun u hu => by rw [List.mem_singleton] at hu; subst hu; exact hv) (by simp only [List.length_cons, List.length_nil]; omega) (by omega)
  refine ⟨H', ?_, h2⟩
  unfold st
  simp only [cellsV_one hv]
  exact h1
theorem OL.stN {H : Hp} {el es : Nat} {x : AV} {L : List (List AV)} (h : OL H el es x L) {i b o : Nat} {vs : List AV} (hi : i < L.length) (hia : ∀ kd, ia es x (.int kd i) = some (.ptr b o)) (hv : vs.all oneC = true) (hn : vs.length = es) (hes : 0 < es) :
    ∃ H', st es (.ptr b o) (.agg vs) H = some H' ∧ OL H' el es x (L.set i vs) ∧ Out (rid x) H H' ∧ H'.next = H.next := by
  have hi' : L[i]? = some L[i] := List.getElem?_eq_getElem hi
  obtain ⟨H', h1, h2⟩ := h.stAt (k := 0) (vs := vs) hi' hia (List.all_eq_true.1 hv) (by omega) hes
  rw [setR_all vs _ (by rw [hn, h.2 _ (List.mem_of_getElem? hi')])] at h2
  refine ⟨H', ?_, h2⟩
  unfold st
  have : Nat.beq es vs.length = true := by rw [hn]; exact Nat.beq_refl _
  simp only [cellsV_agg, this, cond_true]
  exact h1
end Go.Proofs.YtkhhnpkmblldbaaGreatDoor.Am.K
namespace Go.Proofs.YtkhhnpkmblldbaaGreatDoor.DfK
open Go Am Am.K DfEnv DfM LibP DfG
set_option linter.unusedVariables false
set_option linter.unusedSimpArgs false
set_option maxRecDepth 10000
set_option maxHeartbeats 1000000
/-- how far a task is -/
structure RT where
  ph : Int
  tr : Int
  til : Int
  dat : Str
  deriving DecidableEq
def rtC (t : RT) : List AV := [.int .i64 t.ph, .int .i64 t.tr, .int .i64 t.til, .str t.dat]
def rts (l : List RT) : List (List AV) := l.map rtC
/-- a run -/
structure Rn where
  ts : List Tk
  st : Int
  rs : List RT
  sg : List Str
abbrev rv (dx : AV) (st : Int) (tx sx : AV) : List AV := [dx, .int .i64 st, tx, sx]
structure RV (H : Hp) (dx : AV) (xs : List AV) (tx sx : AV) (R : Rn) : Prop where
  d : RD H dx xs R.ts
  t : RL H 4 tx (rts R.rs)
  s : Rw H 1 sx (strs R.sg)
def fpR (dx : AV) (xs : List AV) (tx sx : AV) : List Nat := fpD dx xs ++ (rid tx ++ rid sx)
theorem RV.out {H H' : Hp} {dx tx sx : AV} {xs : List AV} {R : Rn} {S : List Nat} (h : RV H dx xs tx sx R) (k : Out S H H') (hs : ∀ j ∈ fpR dx xs tx sx, j ∉ S) : RV H' dx xs tx sx R :=
  ⟨h.d.out k fun j hj => hs j (List.mem_append_left _ hj), h.t.out k fun j hj => hs j (List.mem_append_right _ (List.mem_append_left _ hj)), h.s.out k fun j hj => hs j (List.mem_append_right _ (List.mem_append_right _ hj))⟩
theorem RV.out0 {H H' : Hp} {dx tx sx : AV} {xs : List AV} {R : Rn} (h : RV H dx xs tx sx R) (k : Out [] H H') : RV H' dx xs tx sx R := h.out k fun _ _ q => by cases q
theorem RV.lt {H : Hp} {dx tx sx : AV} {xs : List AV} {R : Rn} (h : RV H dx xs tx sx R) : ∀ j ∈ fpR dx xs tx sx, j < H.next := fun j hj => by
  rcases List.mem_append.1 hj with hj | hj
  · exact h.d.lt j hj
  · rcases List.mem_append.1 hj with hj | hj
    · exact h.t.1.lt j hj
    · exact h.s.lt j hj
theorem rts_len (l : List RT) : (rts l).length = l.length := by simp [rts]
/-! may, held -/
end Go.Proofs.YtkhhnpkmblldbaaGreatDoor.DfK
namespace Go.Proofs.YtkhhnpkmblldbaaGreatDoor.DfK
open Go Am Am.K DfEnv DfM LibP DfG
set_option linter.unusedVariables false
set_option linter.unusedSimpArgs false
set_option maxRecDepth 10000
set_option maxHeartbeats 1000000
/-- a run of one's own -/
structure RO (H : Hp) (dx : AV) (xs : List AV) (tx sx : AV) (R : Rn) : Prop where
  v : RV H dx xs tx sx R
  t : OL H 126 4 tx (rts R.rs)
  s : Ow H 9 1 sx (strs R.sg)
  dt : ∀ j ∈ rid tx, j ∉ fpD dx xs ∧ j ∉ rid sx
  ds : ∀ j ∈ rid sx, j ∉ fpD dx xs
/-- a run is not too great -/
structure Sm (R : Rn) : Prop where
  n : R.ts.length ≤ 1000
  a : ∀ t ∈ R.ts, t.after.length ≤ 1000
  r : R.rs.length ≤ 1000
  s : R.sg.length ≤ 1000
end Go.Proofs.YtkhhnpkmblldbaaGreatDoor.DfK
namespace Go.Proofs.YtkhhnpkmblldbaaGreatDoor.DfK
open Go Am Am.K DfEnv DfM LibP DfG
set_option linter.unusedVariables false
set_option linter.unusedSimpArgs false
set_option maxRecDepth 10000
set_option maxHeartbeats 1000000
def phN (rs : List RT) (a : Int) : Int := ((rs[a.toNat]?).map (·.ph)).getD 0
def blk (rs : List RT) (t : Tk) : Bool := t.after.any (fun a => phN rs a != 3)
theorem rts_set (l : List RT) (i : Nat) (t : RT) : (rts l).set i (rtC t) = rts (l.set i t) := by simp [rts, List.map_set]
end Go.Proofs.YtkhhnpkmblldbaaGreatDoor.DfK
namespace Go.Proofs.YtkhhnpkmblldbaaGreatDoor.DfK
open Go Am Am.K DfEnv DfM LibP DfG
set_option linter.unusedVariables false
set_option linter.unusedSimpArgs false
set_option maxRecDepth 10000
set_option maxHeartbeats 1000000
theorem RO.out {H H' : Hp} {dx tx sx : AV} {xs : List AV} {R : Rn} {S : List Nat} (h : RO H dx xs tx sx R) (k : Out S H H') (hs : ∀ j ∈ fpR dx xs tx sx, j ∉ S) : RO H' dx xs tx sx R :=
  ⟨h.v.out k hs, h.t.out k fun j hj => hs j (List.mem_append_right _ (List.mem_append_left _ hj)), h.s.out k fun j hj => hs j (List.mem_append_right _ (List.mem_append_right _ hj)), h.dt, h.ds⟩
theorem RO.out0 {H H' : Hp} {dx tx sx : AV} {xs : List AV} {R : Rn} (h : RO H dx xs tx sx R) (k : Out [] H H') : RO H' dx xs tx sx R := h.out k fun _ _ q => by cases q
theorem rt_one (t : RT) : (rtC t).all oneC = true := rfl
theorem RO.set {H : Hp} {dx tx sx : AV} {xs : List AV} {R : Rn} {i b o : Nat} (h : RO H dx xs tx sx R) (hi : i < R.rs.length) (hia : ∀ kd, ia 4 tx (.int kd i) = some (.ptr b o)) (t : RT) :
    ∃ H', st 4 (.ptr b o) (.agg (rtC t)) H = some H' ∧ RO H' dx xs tx sx { R with rs := R.rs.set i t } ∧ Out (rid tx) H H' ∧ H'.next = H.next := by
  obtain ⟨H', h1, h2, h3, h4⟩ := h.t.stN (vs := rtC t) (by rw [rts_len]; exact hi) hia (rt_one t) rfl (by decide)
  rw [rts_set] at h2
  exact ⟨H', h1, ⟨⟨h.v.d.out h3 fun j hj z => (h.dt j z).1 hj, h2.rl, h.v.s.out h3 fun j hj z => (h.dt j z).2 hj⟩, h2, h.s.out h3 fun j hj z => (h.dt j z).2 hj, h.dt, h.ds⟩, h3, h4⟩
abbrev zR : List AV := [.slice0, .int .i64 0, .slice0, .slice0]
abbrev Rn0 : Rn := ⟨[], 0, [], []⟩
theorem RO.zero (H : Hp) : RO H .slice0 [] .slice0 .slice0 Rn0 :=
  ⟨⟨RD.nil H, RL.nil H 4, .nil⟩, OL.nil H _ 4, .nil, fun j hj => (by cases hj), fun j hj => by cases hj⟩
structure Okr (R : Rn) : Prop where
  sm : Sm R
  len : R.rs.length = R.ts.length
  aft : ∀ t ∈ R.ts, ∀ a ∈ t.after, 0 ≤ a ∧ a < (R.ts.length : Int)
/-- what a function that makes a run answers -/
def Ans (f : AV) (args : List AV) (H : Hp) (R : Rn) (e : Int) : Prop :=
  ∃ dx xs tx sx H', cK f args H = some (.tuple [.agg (rv dx R.st tx sx), .int .i64 e], H') ∧ RO H' dx xs tx sx R ∧ Out [] H H' ∧ ∀ j ∈ fpR dx xs tx sx, H.next ≤ j
theorem Ans.err {f : AV} {args : List AV} {H H1 H' : Hp} {e : Int} {m : Nat} (h : cK f args H = some (.tuple [.agg zR, .int .i64 e], H')) (k : Out [] H H1) (k2 : Out [m] H1 H') (hm : H.next ≤ m) : Ans f args H Rn0 e :=
  ⟨.slice0, [], .slice0, .slice0, H', h, RO.zero H', k.then k2 (fun j hj => by rw [List.mem_singleton] at hj; exact .inr (by omega)), fun j hj => by cases hj⟩
theorem one_ge {n m : Nat} (h : n ≤ m) : ∀ j ∈ [m], n ≤ j := fun j hj => by rw [List.mem_singleton] at hj; omega
theorem outNew {H A B : Hp} {S : List Nat} (h : Out [] H A) (k : Out S A B) (hS : ∀ j ∈ S, H.next ≤ j) : Out [] H B := h.then k fun j hj => .inr (hS j hj)
/-! Lease -/
end Go.Proofs.YtkhhnpkmblldbaaGreatDoor.DfK
namespace Go.Proofs.YtkhhnpkmblldbaaGreatDoor.DfK
open Go Am Am.K DfEnv DfM LibP DfG
set_option linter.unusedVariables false
set_option linter.unusedSimpArgs false
set_option maxRecDepth 10000
set_option maxHeartbeats 1000000
/-! New -/
/-! Done -/
theorem Okr.set {R : Rn} (h : Okr R) (i : Nat) (t : RT) : Okr { R with rs := R.rs.set i t } := ⟨⟨h.sm.n, h.sm.a, by rw [List.length_set]; exact h.sm.r, h.sm.s⟩, by rw [List.length_set]; exact h.len, h.aft⟩
end Go.Proofs.YtkhhnpkmblldbaaGreatDoor.DfK
namespace Go.Proofs.YtkhhnpkmblldbaaGreatDoor.DfK
open Go Am Am.K DfEnv DfM LibP DfG
set_option linter.unusedVariables false
set_option linter.unusedSimpArgs false
set_option maxRecDepth 10000
set_option maxHeartbeats 1000000
/-! back.Delay -/
theorem min_i (ty : Array TypeId) (x y : Int) (H : Hp) : builtinA P .min ty [.int .i64 x, .int .i64 y] H = some (.int .i64 (if y < x then y else x), H) := Eq.trans rfl (id rfl)
/-! fail -/
theorem RO.upd {H H' : Hp} {dx tx sx : AV} {xs : List AV} {R : Rn} {l : List RT} (h : RO H dx xs tx sx R) (hO : OL H' 126 4 tx (rts l)) (k : Out (rid tx) H H') : RO H' dx xs tx sx { R with rs := l } :=
  ⟨⟨h.v.d.out k fun j hj z => (h.dt j z).1 hj, hO.rl, h.v.s.out k fun j hj z => (h.dt j z).2 hj⟩, hO, h.s.out k fun j hj z => (h.dt j z).2 hj, h.dt, h.ds⟩
end Go.Proofs.YtkhhnpkmblldbaaGreatDoor.DfK
namespace Go.Proofs.YtkhhnpkmblldbaaGreatDoor.DfK
open Go Am Am.K DfEnv DfM LibP DfG
set_option linter.unusedVariables false
set_option linter.unusedSimpArgs false
set_option maxRecDepth 10000
set_option maxHeartbeats 1000000
end Go.Proofs.YtkhhnpkmblldbaaGreatDoor.DfK
namespace Go.Proofs.YtkhhnpkmblldbaaGreatDoor.DfK
open Go Am Am.K DfEnv DfM LibP DfG
set_option linter.unusedVariables false
set_option linter.unusedSimpArgs false
set_option maxRecDepth 10000
set_option maxHeartbeats 1000000
/-! a text that is gone through -/
def Sit (H : Hp) (i : Nat) (s : List Nat) (pos : Nat) : Prop := i < H.next ∧ H.h.get i = some (.sit s pos)
def sal (H : Hp) (s : List Nat) : Hp := ⟨H.h.put 34 H.next (.sit s 0), H.next + 1⟩
theorem range_s {t : TypeId} (hu : P.underlying t = some .string) (s : List Nat) (H : Hp) : rangeA P t (.str s) H = some (.ptr H.next 0, sal H s) := by
  unfold rangeA
  rw [hu]; rfl
theorem sal_sit (H : Hp) (s : List Nat) : Sit (sal H s) H.next s 0 := ⟨Nat.lt_succ_self _, by show (Tr.put 34 H.h H.next _).get H.next = _; rw [Tr.put, Tr.get_putP, if_pos rfl]⟩
theorem sal_out (H : Hp) (s : List Nat) : Out [] H (sal H s) := ⟨Nat.le_succ _, fun j hj _ => by show (Tr.put 34 H.h H.next _).get j = _; rw [Tr.put, Tr.get_putP, if_neg (by omega)]⟩
theorem Sit.out {H H' : Hp} {i pos : Nat} {s : List Nat} {S : List Nat} (h : Sit H i s pos) (k : Out S H H') (hi : i ∉ S) : Sit H' i s pos := ⟨Nat.lt_of_lt_of_le h.1 k.1, by rw [k.2 i h.1 hi]; exact h.2⟩
theorem next_s {H : Hp} {i pos b : Nat} {s : List Nat} (h : Sit H i s pos) (hb : s[pos]? = some b) (h7 : b < 128) :
    ∃ H', nextA (.ptr i 0) true H = some (.tuple [.bool true, .int .i64 (pos : Nat), .int .i32 (b : Nat)], H') ∧ Sit H' i s (pos + 1) ∧ Out [i] H H' ∧ H'.next = H.next := by
  have hl := (List.getElem?_eq_some_iff.1 hb).1
  have hd : s.drop pos = b :: s.drop (pos + 1) := by
    rw [List.drop_eq_getElem_cons hl]
    rw [List.getElem?_eq_getElem hl] at hb
    cases hb; rfl
  refine ⟨Am.setObj H i (.sit s (pos + 1)), ?_, ⟨h.1, by rw [get_setObj, if_pos rfl]⟩, ⟨Nat.le_refl _, fun j _ hn => by rw [get_setObj, if_neg (by simpa using hn)]⟩, rfl⟩
  have h8 : Nat.blt b 128 = true := by rw [Nat.blt_eq]; exact h7
  unfold nextA
  simp only [h.2, hd, h8, cond_true]
theorem next_e {H : Hp} {i pos : Nat} {s : List Nat} (h : Sit H i s pos) (hp : s.length ≤ pos) : nextA (.ptr i 0) true H = some (.tuple [.bool false], H) := by
  have hd : s.drop pos = [] := List.drop_eq_nil_of_le hp
  unfold nextA
  simp only [h.2, hd]
/-! events -/
structure Ev where
  kd : Int
  rn : Int
  tk : Int
  ty : Int
  n : Int
  nm : Str
  ky : Str
  dt : Str
def evC (e : Ev) : List AV := [.int .i64 e.kd, .int .i64 e.rn, .int .i64 e.tk, .int .i64 e.ty, .int .i64 e.n, .str e.nm, .str e.ky, .str e.dt]
def fieldsM (k : Int) : Str :=
  if k = 1 then [77, 68] else if k = 2 then [82, 77, 75] else if k = 3 ∨ k = 5 then [82, 84, 89] else if k = 4 then [82, 84, 89, 68] else if k = 6 ∨ k = 9 then [78] else if k = 7 then [82, 77] else if k = 8 then [82] else []
def inI (n a b : Int) : Bool := decide (a ≤ n) && decide (n ≤ b)
noncomputable def goodF (e : Ev) (c : Nat) : Bool :=
  if c = 82 then inI e.rn 1 64 else if c = 84 then inI e.tk 0 15 else if c = 89 then inI e.ty 1 9 else if c = 78 then inI e.n 1 (if e.kd = 9 then 1048575 else 1099511627776)
  else if c = 77 then okN e.nm else if c = 75 then decide (e.ky.length ≤ 16) else if e.kd = 1 then decide (e.dt.length ≤ 900) else decide (e.dt.length ≤ 64)
def only1 (e x : Ev) (c : Nat) : Ev :=
  if c = 82 then { x with rn := e.rn } else if c = 84 then { x with tk := e.tk } else if c = 89 then { x with ty := e.ty } else if c = 78 then { x with n := e.n }
  else if c = 77 then { x with nm := e.nm } else if c = 75 then { x with ky := e.ky } else if c = 68 then { x with dt := e.dt } else x
def ev0 (k : Int) : Ev := ⟨k, 0, 0, 0, 0, [], [], []⟩
def onlyM (e : Ev) (l : Str) : Ev := l.foldl (only1 e) (ev0 e.kd)
def eqE' (a b : Ev) : Bool := (a.kd == b.kd) && ((a.rn == b.rn) && ((a.tk == b.tk) && ((a.ty == b.ty) && ((a.n == b.n) && ((a.nm == b.nm) && ((a.ky == b.ky) && (a.dt == b.dt)))))))
noncomputable def goodE (e : Ev) : Bool := !(fieldsM e.kd == []) && (eqE' (onlyM e (fieldsM e.kd)) e && (fieldsM e.kd).all (goodF e))
theorem ev_len (e : Ev) : (evC e).length = 8 := rfl
theorem ev_fd (e : Ev) : (evC e)[0]? = some (.int .i64 e.kd) ∧ (evC e)[1]? = some (.int .i64 e.rn) ∧ (evC e)[2]? = some (.int .i64 e.tk) ∧ (evC e)[3]? = some (.int .i64 e.ty) ∧ (evC e)[4]? = some (.int .i64 e.n) ∧ (evC e)[5]? = some (.str e.nm) ∧ (evC e)[6]? = some (.str e.ky) ∧ (evC e)[7]? = some (.str e.dt) := ⟨rfl, rfl, rfl, rfl, rfl, rfl, rfl, rfl⟩
theorem fields_c (k : Int) (H : Hp) : cK (.func (.func 54) [] []) [.int .i64 k] H = some (.str (fieldsM k), H) := by
  refine c_event_fields ?_
  unfold s_event_fields fieldsM
  by_cases h1 : k = 1
  · subst h1; simp only [k_s, k_x, Int.reduceBEq, Int.reduceBNe, Int.reduceLT, Int.reduceLE, Int.reduceGT, Int.reduceGE, Int.reduceNeg, ↓reduceIte]
  have b1 : (k == 1) = false := by simp [h1]
  by_cases h2 : k = 2
  · subst h2; simp only [b1, k_s, k_x, Int.reduceBEq, Int.reduceBNe, Int.reduceLT, Int.reduceLE, Int.reduceGT, Int.reduceGE, Int.reduceNeg]; rfl
  have b2 : (k == 2) = false := by simp [h2]
  by_cases h3 : k = 3
  · subst h3; simp only [b1, b2, k_s, k_x, Int.reduceBEq, Int.reduceBNe, Int.reduceLT, Int.reduceLE, Int.reduceGT, Int.reduceGE, Int.reduceNeg]; rfl
  have b3 : (k == 3) = false := by simp [h3]
  by_cases h5 : k = 5
  · subst h5; simp only [b1, b2, b3, k_s, k_x, Int.reduceBEq, Int.reduceBNe, Int.reduceLT, Int.reduceLE, Int.reduceGT, Int.reduceGE, Int.reduceNeg]; rfl
  have b5 : (k == 5) = false := by simp [h5]
  by_cases h4 : k = 4
  · subst h4; simp only [b1, b2, b3, b5, k_s, k_x, Int.reduceBEq, Int.reduceBNe, Int.reduceLT, Int.reduceLE, Int.reduceGT, Int.reduceGE, Int.reduceNeg]; rfl
  have b4 : (k == 4) = false := by simp [h4]
  by_cases h6 : k = 6
  · subst h6; simp only [b1, b2, b3, b5, b4, k_s, k_x, Int.reduceBEq, Int.reduceBNe, Int.reduceLT, Int.reduceLE, Int.reduceGT, Int.reduceGE, Int.reduceNeg]; rfl
  have b6 : (k == 6) = false := by simp [h6]
  by_cases h9 : k = 9
  · subst h9; simp only [b1, b2, b3, b5, b4, b6, k_s, k_x, Int.reduceBEq, Int.reduceBNe, Int.reduceLT, Int.reduceLE, Int.reduceGT, Int.reduceGE, Int.reduceNeg]; rfl
  have b9 : (k == 9) = false := by simp [h9]
  by_cases h7 : k = 7
  · subst h7; simp only [b1, b2, b3, b5, b4, b6, b9, k_s, k_x, Int.reduceBEq, Int.reduceBNe, Int.reduceLT, Int.reduceLE, Int.reduceGT, Int.reduceGE, Int.reduceNeg]; rfl
  have b7 : (k == 7) = false := by simp [h7]
  by_cases h8 : k = 8
  · subst h8; simp only [b1, b2, b3, b5, b4, b6, b9, b7, k_s, k_x, Int.reduceBEq, Int.reduceBNe, Int.reduceLT, Int.reduceLE, Int.reduceGT, Int.reduceGE, Int.reduceNeg]; rfl
  have b8 : (k == 8) = false := by simp [h8]
  simp only [b1, b2, b3, b5, b4, b6, b9, b7, b8, h1, h2, h3, h4, h5, h6, h7, h8, h9, or_self, ↓reduceIte, k_s, k_x, Int.reduceBEq, Int.reduceBNe, Int.reduceLT, Int.reduceLE, Int.reduceGT, Int.reduceGE, Int.reduceNeg]
theorem ein_c (n a b : Int) (H : Hp) : cK (.func (.func 92) [] []) [.int .i64 n, .int .i64 a, .int .i64 b] H = some (.bool (inI n a b), H) := by
  refine c_event_in ?_
  unfold s_event_in inI
  by_cases h1 : a ≤ n
  · simp (disch := (first | assumption | omega | (simp only [k_d, k_c, Nat.reduceAdd, Nat.reduceLeDiff, Nat.reduceLT] <;> fail) | (simp only [k_c]; omega) | (simp only [k_d, k_c, Nat.reduceAdd, Nat.reduceLeDiff, Nat.reduceLT, *] <;> fail) | fail)) only [h1, Bool.true_and, k_a, k_b, Nat.reduceAdd, k_s, k_x, Int.reduceBEq, Int.reduceBNe, Int.reduceLT, Int.reduceLE, Int.reduceGT, Int.reduceGE, Int.reduceNeg]
  · simp (disch := (first | assumption | omega | (simp only [k_d, k_c, Nat.reduceAdd, Nat.reduceLeDiff, Nat.reduceLT] <;> fail) | (simp only [k_c]; omega) | (simp only [k_d, k_c, Nat.reduceAdd, Nat.reduceLeDiff, Nat.reduceLT, *] <;> fail) | fail)) only [h1, Bool.false_and, k_a, k_b, Nat.reduceAdd, k_s, k_x, Int.reduceBEq, Int.reduceBNe, Int.reduceLT, Int.reduceLE, Int.reduceGT, Int.reduceGE, Int.reduceNeg]
theorem good1e_c (e : Ev) (c : Nat) (H : Hp) : ∃ H', cK (.func (.func 58) [] []) [.agg (evC e), .int .i32 (c : Nat)] H = some (.bool (goodF e c), H') ∧ Out [] H H' := by
  have hbx : bx 29 (.agg (evC e)) H = some (H.next, al H (evC e) 29 0) := bx_alA (by rw [ev_len]; omega)
  have o1 := al_out H (evC e) 29 0
  have c1 := al_cs H (evC e) 29 0
  generalize al H (evC e) 29 0 = H1 at *
  obtain ⟨e0, e1, e2, e3, e4, e5, e6, e7⟩ := ev_fd e
  have k0 := c1.cellAt e0
  have k1 := c1.cellAt e1
  have k2 := c1.cellAt e2
  have k3 := c1.cellAt e3
  have k4 := c1.cellAt e4
  have k5 := c1.cellAt e5
  have k6 := c1.cellAt e6
  have k7 := c1.cellAt e7
  have hd : ∀ n : Nat, c ≠ n → (((c : Nat) : Int) == (n : Nat)) = false := fun n hn => by rw [beq_eq_false_iff_ne]; omega
  refine ⟨H1, c__event_Event_good ?_, o1⟩
  unfold s__event_Event_good goodF
  by_cases h1 : c = 82
  · subst h1; simp (disch := (first | assumption | omega | (simp only [k_d, k_c, Nat.reduceAdd, Nat.reduceLeDiff, Nat.reduceLT] <;> fail) | (simp only [k_c]; omega) | (simp only [k_d, k_c, Nat.reduceAdd, Nat.reduceLeDiff, Nat.reduceLT, *] <;> fail) | fail)) only [hbx, k1, ein_c, ↓reduceIte, Int.cast_ofNat_Int, k_a, k_b, Nat.reduceAdd, k_s, k_x, Int.reduceBEq, Int.reduceBNe, Int.reduceLT, Int.reduceLE, Int.reduceGT, Int.reduceGE, Int.reduceNeg]
  have b1 : (((c : Nat) : Int) == 82) = false := hd 82 h1
  rw [if_neg h1]
  by_cases h2 : c = 84
  · subst h2; simp (disch := (first | assumption | omega | (simp only [k_d, k_c, Nat.reduceAdd, Nat.reduceLeDiff, Nat.reduceLT] <;> fail) | (simp only [k_c]; omega) | (simp only [k_d, k_c, Nat.reduceAdd, Nat.reduceLeDiff, Nat.reduceLT, *] <;> fail) | fail)) only [hbx, k2, ein_c, ↓reduceIte, Int.cast_ofNat_Int, k_a, k_b, Nat.reduceAdd, k_s, k_x, Int.reduceBEq, Int.reduceBNe, Int.reduceLT, Int.reduceLE, Int.reduceGT, Int.reduceGE, Int.reduceNeg]
  have b2 : (((c : Nat) : Int) == 84) = false := hd 84 h2
  rw [if_neg h2]
  by_cases h3 : c = 89
  · subst h3; simp (disch := (first | assumption | omega | (simp only [k_d, k_c, Nat.reduceAdd, Nat.reduceLeDiff, Nat.reduceLT] <;> fail) | (simp only [k_c]; omega) | (simp only [k_d, k_c, Nat.reduceAdd, Nat.reduceLeDiff, Nat.reduceLT, *] <;> fail) | fail)) only [hbx, k3, ein_c, ↓reduceIte, Int.cast_ofNat_Int, k_a, k_b, Nat.reduceAdd, k_s, k_x, Int.reduceBEq, Int.reduceBNe, Int.reduceLT, Int.reduceLE, Int.reduceGT, Int.reduceGE, Int.reduceNeg]
  have b3 : (((c : Nat) : Int) == 89) = false := hd 89 h3
  rw [if_neg h3]
  by_cases h4 : c = 78
  · subst h4
    rw [if_pos rfl]
    by_cases hk : e.kd = 9
    · have bk : (e.kd == 9) = true := by simp [hk]
      rw [if_pos hk]
      unfold inI
      by_cases hn : 1 ≤ e.n
      · simp (disch := (first | assumption | omega | (simp only [k_d, k_c, Nat.reduceAdd, Nat.reduceLeDiff, Nat.reduceLT] <;> fail) | (simp only [k_c]; omega) | (simp only [k_d, k_c, Nat.reduceAdd, Nat.reduceLeDiff, Nat.reduceLT, *] <;> fail) | fail)) only [hbx, k0, k4, bk, hn, Bool.true_and, Int.cast_ofNat_Int, k_a, k_b, Nat.reduceAdd, k_s, k_x, Int.reduceBEq, Int.reduceBNe, Int.reduceLT, Int.reduceLE, Int.reduceGT, Int.reduceGE, Int.reduceNeg]
      · simp (disch := (first | assumption | omega | (simp only [k_d, k_c, Nat.reduceAdd, Nat.reduceLeDiff, Nat.reduceLT] <;> fail) | (simp only [k_c]; omega) | (simp only [k_d, k_c, Nat.reduceAdd, Nat.reduceLeDiff, Nat.reduceLT, *] <;> fail) | fail)) only [hbx, k0, k4, bk, hn, Bool.false_and, Int.cast_ofNat_Int, k_a, k_b, Nat.reduceAdd, k_s, k_x, Int.reduceBEq, Int.reduceBNe, Int.reduceLT, Int.reduceLE, Int.reduceGT, Int.reduceGE, Int.reduceNeg]
    · have bk : (e.kd == 9) = false := by simp [hk]
      rw [if_neg hk]
      unfold inI
      by_cases hn : 1 ≤ e.n
      · simp (disch := (first | assumption | omega | (simp only [k_d, k_c, Nat.reduceAdd, Nat.reduceLeDiff, Nat.reduceLT] <;> fail) | (simp only [k_c]; omega) | (simp only [k_d, k_c, Nat.reduceAdd, Nat.reduceLeDiff, Nat.reduceLT, *] <;> fail) | fail)) only [hbx, k0, k4, bk, hn, Bool.true_and, Int.cast_ofNat_Int, k_a, k_b, Nat.reduceAdd, k_s, k_x, Int.reduceBEq, Int.reduceBNe, Int.reduceLT, Int.reduceLE, Int.reduceGT, Int.reduceGE, Int.reduceNeg]
      · simp (disch := (first | assumption | omega | (simp only [k_d, k_c, Nat.reduceAdd, Nat.reduceLeDiff, Nat.reduceLT] <;> fail) | (simp only [k_c]; omega) | (simp only [k_d, k_c, Nat.reduceAdd, Nat.reduceLeDiff, Nat.reduceLT, *] <;> fail) | fail)) only [hbx, k0, k4, bk, hn, Bool.false_and, Int.cast_ofNat_Int, k_a, k_b, Nat.reduceAdd, k_s, k_x, Int.reduceBEq, Int.reduceBNe, Int.reduceLT, Int.reduceLE, Int.reduceGT, Int.reduceGE, Int.reduceNeg]
  have b4 : (((c : Nat) : Int) == 78) = false := hd 78 h4
  rw [if_neg h4]
  by_cases h5 : c = 77
  · subst h5; simp (disch := (first | assumption | omega | (simp only [k_d, k_c, Nat.reduceAdd, Nat.reduceLeDiff, Nat.reduceLT] <;> fail) | (simp only [k_c]; omega) | (simp only [k_d, k_c, Nat.reduceAdd, Nat.reduceLeDiff, Nat.reduceLT, *] <;> fail) | fail)) only [hbx, k5, name_c, ↓reduceIte, Int.cast_ofNat_Int, k_a, k_b, Nat.reduceAdd, k_s, k_x, Int.reduceBEq, Int.reduceBNe, Int.reduceLT, Int.reduceLE, Int.reduceGT, Int.reduceGE, Int.reduceNeg]
  have b5 : (((c : Nat) : Int) == 77) = false := hd 77 h5
  rw [if_neg h5]
  have hle : ∀ (a n : Nat), decide (((a : Nat) : Int) ≤ ((n : Nat) : Int)) = decide (a ≤ n) := fun a n => by simp
  by_cases h6 : c = 75
  · subst h6
    have := hle e.ky.length 16
    rw [show (((16 : Nat) : Int)) = 16 from rfl] at this
    simp (disch := (first | assumption | omega | (simp only [k_d, k_c, Nat.reduceAdd, Nat.reduceLeDiff, Nat.reduceLT] <;> fail) | (simp only [k_c]; omega) | (simp only [k_d, k_c, Nat.reduceAdd, Nat.reduceLeDiff, Nat.reduceLT, *] <;> fail) | fail)) only [hbx, k6, this, ↓reduceIte, Int.cast_ofNat_Int, k_a, k_b, Nat.reduceAdd, k_s, k_x, Int.reduceBEq, Int.reduceBNe, Int.reduceLT, Int.reduceLE, Int.reduceGT, Int.reduceGE, Int.reduceNeg]
  have b6 : (((c : Nat) : Int) == 75) = false := hd 75 h6
  rw [if_neg h6]
  by_cases h7 : e.kd = 1
  · have b7 : (e.kd == 1) = true := by simp [h7]
    have := hle e.dt.length 900
    rw [show (((900 : Nat) : Int)) = 900 from rfl] at this
    rw [if_pos h7]
    simp (disch := (first | assumption | omega | (simp only [k_d, k_c, Nat.reduceAdd, Nat.reduceLeDiff, Nat.reduceLT] <;> fail) | (simp only [k_c]; omega) | (simp only [k_d, k_c, Nat.reduceAdd, Nat.reduceLeDiff, Nat.reduceLT, *] <;> fail) | fail)) only [hbx, k0, k7, b1, b2, b3, b4, b5, b6, b7, this, k_a, k_b, Nat.reduceAdd, k_s, k_x, Int.reduceBEq, Int.reduceBNe, Int.reduceLT, Int.reduceLE, Int.reduceGT, Int.reduceGE, Int.reduceNeg]
  · have b7 : (e.kd == 1) = false := by simp [h7]
    have := hle e.dt.length 64
    rw [show (((64 : Nat) : Int)) = 64 from rfl] at this
    rw [if_neg h7]
    simp (disch := (first | assumption | omega | (simp only [k_d, k_c, Nat.reduceAdd, Nat.reduceLeDiff, Nat.reduceLT] <;> fail) | (simp only [k_c]; omega) | (simp only [k_d, k_c, Nat.reduceAdd, Nat.reduceLeDiff, Nat.reduceLT, *] <;> fail) | fail)) only [hbx, k0, k7, b1, b2, b3, b4, b5, b6, b7, this, k_a, k_b, Nat.reduceAdd, k_s, k_x, Int.reduceBEq, Int.reduceBNe, Int.reduceLT, Int.reduceLE, Int.reduceGT, Int.reduceGE, Int.reduceNeg]
theorem only_loop {e : Ev} {E X it : Nat} {l : Str} {y : AV} (hl : ∀ c ∈ l, c < 128) (h1 : E ≠ X) (h2 : E ≠ it) (h3 : X ≠ it) : ∀ (r : Str) (i : Nat) (H : Hp) (x : Ev), l.drop i = r → Sit H it l i → Cs H E (evC e) 29 0 → Cs H X (evC x) 29 0 →
    ∃ H', (∀ j19 : K.Fn 2, l__event_Event_only JN GO cK j19 (.ptr E 0) y (.ptr X 0) (.ptr it 0) H = j19 y (.ptr X 0) H') ∧ Cs H' X (evC (r.foldl (only1 e) x)) 29 0 ∧ Out [it, X] H H' ∧ H'.next = H.next
  | [], i, H, x, h, hS, hE, hX => by
    have hi : l.length ≤ i := by
      rcases Nat.lt_or_ge i l.length with q | q
      · rw [List.drop_eq_getElem_cons q] at h; cases h
      · exact q
    refine ⟨H, fun j19 => ?_, hX, Out.refl _ _, rfl⟩
    rw [ql__event_Event_only]
    simp only [bl__event_Event_only, next_e hS hi, k_s, k_x, Int.reduceBEq, Int.reduceBNe, Int.reduceLT, Int.reduceLE, Int.reduceGT, Int.reduceGE, Int.reduceNeg]
  | c :: r, i, H, x, h, hS, hE, hX => by
    obtain ⟨g1, g2, g3⟩ := hd_drop h
    obtain ⟨H1, n1, n2, n3, n4⟩ := next_s hS g2 (hl c (List.mem_of_getElem? g2))
    have hE1 := hE.out n3 (by simpa using h2)
    have hX1 := hX.out n3 (by simpa using h3)
    obtain ⟨e0, e1, e2, e3, e4, e5, e6, e7⟩ := ev_fd e
    have hd : ∀ n : Nat, c ≠ n → (((c : Nat) : Int) == (n : Nat)) = false := fun n hn => by rw [beq_eq_false_iff_ne]; omega
    have fin : ∀ (H2 : Hp) (x' : Ev), Cs H2 X (evC x') 29 0 → Out [X] H1 H2 → H2.next = H1.next → only1 e x c = x' → ∃ H', (∀ j19 : K.Fn 2, l__event_Event_only JN GO cK j19 (.ptr E 0) y (.ptr X 0) (.ptr it 0) H2 = j19 y (.ptr X 0) H') ∧ Cs H' X (evC ((c :: r).foldl (only1 e) x)) 29 0 ∧ Out [it, X] H H' ∧ H'.next = H.next := by
      intro H2 x' hx2 ho hn hx
      obtain ⟨H', i1, i2, i3, i4⟩ := only_loop (y := y) hl h1 h2 h3 r (i + 1) H2 x' g3 (n2.out ho (by simpa using fun q => h3 q.symm)) (hE1.out ho (by simpa using h1)) hx2
      refine ⟨H', i1, by rw [List.foldl_cons, hx]; exact i2, ((n3.mono (fun j hj => by simp at hj; simp [hj])).trans (ho.mono (fun j hj => by simp at hj; simp [hj]))).trans i3, by omega⟩
    have sv : ∀ (o : Nat) (v : AV), o < 8 → oneC v = true → ∃ H2, st 1 (.ptr X o) v H1 = some H2 ∧ Cs H2 X ((evC x).set o v) 29 0 ∧ Out [X] H1 H2 ∧ H2.next = H1.next := fun o v ho hv => st1 hX1 (by decide) (by rw [ev_len]; exact ho) hv
    by_cases q1 : c = 82
    · subst q1
      obtain ⟨H2, s1, s2, s3, s4⟩ := sv 1 (.int .i64 e.rn) (by omega) rfl
      obtain ⟨H', i1, i2, i3, i4⟩ := fin H2 { x with rn := e.rn } s2 s3 s4 rfl
      refine ⟨H', fun j19 => ?_, i2, i3, i4⟩
      rw [ql__event_Event_only]
      simp (disch := (first | assumption | omega | (simp only [k_d, k_c, Nat.reduceAdd, Nat.reduceLeDiff, Nat.reduceLT] <;> fail) | (simp only [k_c]; omega) | (simp only [k_d, k_c, Nat.reduceAdd, Nat.reduceLeDiff, Nat.reduceLT, *] <;> fail) | fail)) only [bl__event_Event_only, n1, hE1.cellAt e1, s1, i1, Int.cast_ofNat_Int, k_a, k_b, Nat.reduceAdd, k_s, k_x, Int.reduceBEq, Int.reduceBNe, Int.reduceLT, Int.reduceLE, Int.reduceGT, Int.reduceGE, Int.reduceNeg]
    have b1 : (((c : Nat) : Int) == 82) = false := hd 82 q1
    by_cases q2 : c = 84
    · subst q2
      obtain ⟨H2, s1, s2, s3, s4⟩ := sv 2 (.int .i64 e.tk) (by omega) rfl
      obtain ⟨H', i1, i2, i3, i4⟩ := fin H2 { x with tk := e.tk } s2 s3 s4 rfl
      refine ⟨H', fun j19 => ?_, i2, i3, i4⟩
      rw [ql__event_Event_only]
      simp (disch := (first | assumption | omega | (simp only [k_d, k_c, Nat.reduceAdd, Nat.reduceLeDiff, Nat.reduceLT] <;> fail) | (simp only [k_c]; omega) | (simp only [k_d, k_c, Nat.reduceAdd, Nat.reduceLeDiff, Nat.reduceLT, *] <;> fail) | fail)) only [bl__event_Event_only, n1, hE1.cellAt e2, s1, i1, Int.cast_ofNat_Int, k_a, k_b, Nat.reduceAdd, k_s, k_x, Int.reduceBEq, Int.reduceBNe, Int.reduceLT, Int.reduceLE, Int.reduceGT, Int.reduceGE, Int.reduceNeg]
    have b2 : (((c : Nat) : Int) == 84) = false := hd 84 q2
    by_cases q3 : c = 89
    · subst q3
      obtain ⟨H2, s1, s2, s3, s4⟩ := sv 3 (.int .i64 e.ty) (by omega) rfl
      obtain ⟨H', i1, i2, i3, i4⟩ := fin H2 { x with ty := e.ty } s2 s3 s4 rfl
      refine ⟨H', fun j19 => ?_, i2, i3, i4⟩
      rw [ql__event_Event_only]
      simp (disch := (first | assumption | omega | (simp only [k_d, k_c, Nat.reduceAdd, Nat.reduceLeDiff, Nat.reduceLT] <;> fail) | (simp only [k_c]; omega) | (simp only [k_d, k_c, Nat.reduceAdd, Nat.reduceLeDiff, Nat.reduceLT, *] <;> fail) | fail)) only [bl__event_Event_only, n1, hE1.cellAt e3, s1, i1, Int.cast_ofNat_Int, k_a, k_b, Nat.reduceAdd, k_s, k_x, Int.reduceBEq, Int.reduceBNe, Int.reduceLT, Int.reduceLE, Int.reduceGT, Int.reduceGE, Int.reduceNeg]
    have b3 : (((c : Nat) : Int) == 89) = false := hd 89 q3
    by_cases q4 : c = 78
    · subst q4
      obtain ⟨H2, s1, s2, s3, s4⟩ := sv 4 (.int .i64 e.n) (by omega) rfl
      obtain ⟨H', i1, i2, i3, i4⟩ := fin H2 { x with n := e.n } s2 s3 s4 rfl
      refine ⟨H', fun j19 => ?_, i2, i3, i4⟩
      rw [ql__event_Event_only]
      simp (disch := (first | assumption | omega | (simp only [k_d, k_c, Nat.reduceAdd, Nat.reduceLeDiff, Nat.reduceLT] <;> fail) | (simp only [k_c]; omega) | (simp only [k_d, k_c, Nat.reduceAdd, Nat.reduceLeDiff, Nat.reduceLT, *] <;> fail) | fail)) only [bl__event_Event_only, n1, hE1.cellAt e4, s1, i1, Int.cast_ofNat_Int, k_a, k_b, Nat.reduceAdd, k_s, k_x, Int.reduceBEq, Int.reduceBNe, Int.reduceLT, Int.reduceLE, Int.reduceGT, Int.reduceGE, Int.reduceNeg]
    have b4 : (((c : Nat) : Int) == 78) = false := hd 78 q4
    by_cases q5 : c = 77
    · subst q5
      obtain ⟨H2, s1, s2, s3, s4⟩ := sv 5 (.str e.nm) (by omega) rfl
      obtain ⟨H', i1, i2, i3, i4⟩ := fin H2 { x with nm := e.nm } s2 s3 s4 rfl
      refine ⟨H', fun j19 => ?_, i2, i3, i4⟩
      rw [ql__event_Event_only]
      simp (disch := (first | assumption | omega | (simp only [k_d, k_c, Nat.reduceAdd, Nat.reduceLeDiff, Nat.reduceLT] <;> fail) | (simp only [k_c]; omega) | (simp only [k_d, k_c, Nat.reduceAdd, Nat.reduceLeDiff, Nat.reduceLT, *] <;> fail) | fail)) only [bl__event_Event_only, n1, hE1.cellAt e5, s1, i1, Int.cast_ofNat_Int, k_a, k_b, Nat.reduceAdd, k_s, k_x, Int.reduceBEq, Int.reduceBNe, Int.reduceLT, Int.reduceLE, Int.reduceGT, Int.reduceGE, Int.reduceNeg]
    have b5 : (((c : Nat) : Int) == 77) = false := hd 77 q5
    by_cases q6 : c = 75
    · subst q6
      obtain ⟨H2, s1, s2, s3, s4⟩ := sv 6 (.str e.ky) (by omega) rfl
      obtain ⟨H', i1, i2, i3, i4⟩ := fin H2 { x with ky := e.ky } s2 s3 s4 rfl
      refine ⟨H', fun j19 => ?_, i2, i3, i4⟩
      rw [ql__event_Event_only]
      simp (disch := (first | assumption | omega | (simp only [k_d, k_c, Nat.reduceAdd, Nat.reduceLeDiff, Nat.reduceLT] <;> fail) | (simp only [k_c]; omega) | (simp only [k_d, k_c, Nat.reduceAdd, Nat.reduceLeDiff, Nat.reduceLT, *] <;> fail) | fail)) only [bl__event_Event_only, n1, hE1.cellAt e6, s1, i1, Int.cast_ofNat_Int, k_a, k_b, Nat.reduceAdd, k_s, k_x, Int.reduceBEq, Int.reduceBNe, Int.reduceLT, Int.reduceLE, Int.reduceGT, Int.reduceGE, Int.reduceNeg]
    have b6 : (((c : Nat) : Int) == 75) = false := hd 75 q6
    by_cases q7 : c = 68
    · subst q7
      obtain ⟨H2, s1, s2, s3, s4⟩ := sv 7 (.str e.dt) (by omega) rfl
      obtain ⟨H', i1, i2, i3, i4⟩ := fin H2 { x with dt := e.dt } s2 s3 s4 rfl
      refine ⟨H', fun j19 => ?_, i2, i3, i4⟩
      rw [ql__event_Event_only]
      simp (disch := (first | assumption | omega | (simp only [k_d, k_c, Nat.reduceAdd, Nat.reduceLeDiff, Nat.reduceLT] <;> fail) | (simp only [k_c]; omega) | (simp only [k_d, k_c, Nat.reduceAdd, Nat.reduceLeDiff, Nat.reduceLT, *] <;> fail) | fail)) only [bl__event_Event_only, n1, hE1.cellAt e7, s1, i1, Int.cast_ofNat_Int, k_a, k_b, Nat.reduceAdd, k_s, k_x, Int.reduceBEq, Int.reduceBNe, Int.reduceLT, Int.reduceLE, Int.reduceGT, Int.reduceGE, Int.reduceNeg]
    have b7 : (((c : Nat) : Int) == 68) = false := hd 68 q7
    obtain ⟨H', i1, i2, i3, i4⟩ := fin H1 x hX1 (Out.refl _ _) rfl (by unfold only1; rw [if_neg q1, if_neg q2, if_neg q3, if_neg q4, if_neg q5, if_neg q6, if_neg q7])
    refine ⟨H', fun j19 => ?_, i2, i3, i4⟩
    rw [ql__event_Event_only]
    simp (disch := (first | assumption | omega | (simp only [k_d, k_c, Nat.reduceAdd, Nat.reduceLeDiff, Nat.reduceLT] <;> fail) | (simp only [k_c]; omega) | (simp only [k_d, k_c, Nat.reduceAdd, Nat.reduceLeDiff, Nat.reduceLT, *] <;> fail) | fail)) only [bl__event_Event_only, n1, b1, b2, b3, b4, b5, b6, b7, i1, k_a, k_b, Nat.reduceAdd, k_s, k_x, Int.reduceBEq, Int.reduceBNe, Int.reduceLT, Int.reduceLE, Int.reduceGT, Int.reduceGE, Int.reduceNeg]
abbrev zE : List AV := [(.int .i64 0), (.int .i64 0), (.int .i64 0), (.int .i64 0), (.int .i64 0), (.str []), (.str []), (.str [])]
theorem only_c (e : Ev) {l : Str} (hl : ∀ c ∈ l, c < 128) (H : Hp) : ∃ H', cK (.func (.func 55) [] []) [.agg (evC e), .str l] H = some (.agg (evC (onlyM e l)), H') ∧ Out [] H H' := by
  have hbx : bx 29 (.agg (evC e)) H = some (H.next, al H (evC e) 29 0) := bx_alA (by rw [ev_len]; omega)
  have o1 := al_out H (evC e) 29 0
  have c1 := al_cs H (evC e) 29 0
  have n1 : (al H (evC e) 29 0).next = H.next + 1 := rfl
  generalize al H (evC e) 29 0 = H1 at *
  have hnc : newCells H1 zE 29 0 = some (H.next + 1, al H1 zE 29 0) := by rw [← n1]; exact newCells_al (by simp)
  have o2 := al_out H1 zE 29 0
  have c2 := al_cs H1 zE 29 0
  have n2 : (al H1 zE 29 0).next = H.next + 2 := by rw [al_nx, n1]
  rw [n1] at c2
  generalize hA2 : al H1 zE 29 0 = H2 at *
  have k0 : cellAt H2 H.next 0 = some (.int .i64 e.kd) := (c1.out o2 (by simp)).cellAt rfl
  have hf : fl zE [(0, 1, .int .i64 e.kd)] = some (evC (ev0 e.kd)) := rfl
  have hnc2 : newCells H2 zE 29 0 = some (H.next + 2, al H2 zE 29 0) := by rw [← n2]; exact newCells_al (by simp)
  have hst : st 8 (.ptr (H.next + 2) 0) (.agg (evC (ev0 e.kd))) (al H2 zE 29 0) = some (al H2 (evC (ev0 e.kd)) 29 0) := st_alN rfl rfl n2.symm (by decide) rfl
  have o3 := al_out H2 (evC (ev0 e.kd)) 29 0
  have c3 := al_cs H2 (evC (ev0 e.kd)) 29 0
  have n3 : (al H2 (evC (ev0 e.kd)) 29 0).next = H.next + 3 := by rw [al_nx, n2]
  rw [n2] at c3
  generalize al H2 (evC (ev0 e.kd)) 29 0 = H3 at *
  have hrg : rangeA P 9 (.str l) H3 = some (.ptr (H.next + 3) 0, sal H3 l) := by rw [← n3]; exact range_s Tryz.underlying9 l H3
  have o4 := sal_out H3 l
  have s4 := sal_sit H3 l
  rw [n3] at s4
  have cE := ((c1.out o2 (by simp)).out o3 (by simp)).out o4 (by simp)
  have cV := (c2.out o3 (by simp)).out o4 (by simp)
  have cX := c3.out o4 (by simp)
  obtain ⟨H5, i1, i2, i3, i4⟩ := only_loop (y := .ptr (H.next + 1) 0) hl (by omega) (by omega) (by omega) l 0 (sal H3 l) (ev0 e.kd) List.drop_zero s4 cE cX
  have cV5 := cV.out i3 (by simp)
  have k8 : cellsAt H5 (H.next + 2) 0 8 = some (evC (onlyM e l)) := i2.cellsAt 8 0 (by rw [ev_len]; omega)
  obtain ⟨H6, t1, t2, t3, t4⟩ := stAll (n := 8) (vs := evC (onlyM e l)) cV5 rfl rfl rfl
  have k9 : cellsAt H6 (H.next + 1) 0 8 = some (evC (onlyM e l)) := t2.cellsAt 8 0 (by rw [ev_len]; omega)
  have out : Out [] H H6 := outNew (outNew (((o1.trans o2).trans o3).trans o4) i3 (fun j hj => by simp at hj; omega)) t3 (one_ge (by omega))
  refine ⟨H6, c__event_Event_only ?_, out⟩
  unfold s__event_Event_only
  simp (disch := (first | assumption | omega | (simp only [k_d, k_c, Nat.reduceAdd, Nat.reduceLeDiff, Nat.reduceLT] <;> fail) | (simp only [k_c]; omega) | (simp only [k_d, k_c, Nat.reduceAdd, Nat.reduceLeDiff, Nat.reduceLT, *] <;> fail) | fail)) only [hbx, n1, hA2, n2, k0, hf, hst, hrg, i1, k8, t1, k9, k_a, k_b, Nat.reduceAdd, k_s, k_x, Int.reduceBEq, Int.reduceBNe, Int.reduceLT, Int.reduceLE, Int.reduceGT, Int.reduceGE, Int.reduceNeg]
theorem eqA_ev (a b c d e : Int) (f g h : Str) (a' b' c' d' e' : Int) (f' g' h' : Str) (H : Hp) : eqA P 50 29 (.agg [.int .i64 a, .int .i64 b, .int .i64 c, .int .i64 d, .int .i64 e, .str f, .str g, .str h]) (.agg [.int .i64 a', .int .i64 b', .int .i64 c', .int .i64 d', .int .i64 e', .str f', .str g', .str h']) H = allO (fun z : Bool => some z) [a == a', b == b', c == c', d == d', e == e', f == f', g == g', h == h'] := by kernel_rfl
theorem eqG_ev : Program.eqGuardType P P.depth 29 = false := by kernel_rfl
theorem allO_b : ∀ l : List Bool, allO (fun z : Bool => some z) l = some (l.all id)
  | [] => rfl
  | b :: l => by
    unfold allO
    rw [allO_b l, List.all_cons]
    cases b <;> rfl
theorem eq_ev (a b : Ev) (H : Hp) : gA P .eql 29 false (.agg (evC a)) (.agg (evC b)) = true ∧ binA P .eql 29 (.agg (evC a)) (.agg (evC b)) H = some (.bool (eqE' a b)) := by
  constructor
  · show (!(Program.eqGuardType P P.depth 29)) = true
    rw [eqG_ev]; rfl
  · show (eqA P 50 29 (.agg (evC a)) (.agg (evC b)) H).map (fun b => AV.bool b) = _
    have h : eqA P 50 29 (.agg (evC a)) (.agg (evC b)) H = _ := eqA_ev a.kd a.rn a.tk a.ty a.n a.nm a.ky a.dt b.kd b.rn b.tk b.ty b.n b.nm b.ky b.dt H
    rw [h, allO_b]
    simp [eqE']
/-! letters asked for -/
def findF (p : Nat → Bool) : Str → Nat → Option Nat
  | [], _ => none
  | c :: r, i => if p c then some i else findF p r (i + 1)
theorem findF_none (p : Nat → Bool) : ∀ (l : Str) (i : Nat), (findF p l i).isSome = l.any p
  | [], i => rfl
  | c :: r, i => by
    unfold findF
    rw [List.any_cons]
    cases h : p c with
    | true => rfl
    | false => rw [Bool.false_or]; exact findF_none p r (i + 1)
theorem indexF_loop {fv : AV} {it : Nat} {l : Str} {p : Nat → Bool} {H0 : Hp} (hl : ∀ c ∈ l, c < 128) (hp : ∀ H, Out [] H0 H → ∀ c ∈ l, ∃ H', cK fv [.int .i32 (c : Nat)] H = some (.bool (p c), H') ∧ Out [] H H') (hit : H0.next ≤ it) : ∀ (r : Str) (i : Nat) (H : Hp), l.drop i = r → Sit H it l i → Out [] H0 H →
    ∃ H', (∀ j3 : K.Fn 0, l_strings_indexFunc JN GO cK j3 fv (.bool true) (.ptr it 0) H = match findF p r i with | some k => some (.int .i64 (k : Nat), H') | none => j3 H') ∧ Out [] H0 H'
  | [], i, H, h, hS, hO => by
    have hi : l.length ≤ i := by
      rcases Nat.lt_or_ge i l.length with q | q
      · rw [List.drop_eq_getElem_cons q] at h; cases h
      · exact q
    refine ⟨H, fun j3 => ?_, hO⟩
    rw [ql_strings_indexFunc]
    simp only [bl_strings_indexFunc, next_e hS hi, k_s, k_x, Int.reduceBEq, Int.reduceBNe, Int.reduceLT, Int.reduceLE, Int.reduceGT, Int.reduceGE, Int.reduceNeg]
    rfl
  | c :: r, i, H, h, hS, hO => by
    obtain ⟨g1, g2, g3⟩ := hd_drop h
    obtain ⟨H1, n1, n2, n3, n4⟩ := next_s hS g2 (hl c (List.mem_of_getElem? g2))
    have hO1 : Out [] H0 H1 := outNew hO n3 (one_ge hit)
    obtain ⟨H2, f1, f2⟩ := hp H1 hO1 c (List.mem_of_getElem? g2)
    have hO2 := hO1.trans f2
    unfold findF
    cases hc : p c with
    | true =>
      refine ⟨H2, fun j3 => ?_, hO2⟩
      rw [ql_strings_indexFunc]
      rw [hc] at f1
      have bt : (true == true) = true := rfl
      simp (disch := (first | assumption | omega | (simp only [k_d, k_c, Nat.reduceAdd, Nat.reduceLeDiff, Nat.reduceLT] <;> fail) | (simp only [k_c]; omega) | (simp only [k_d, k_c, Nat.reduceAdd, Nat.reduceLeDiff, Nat.reduceLT, *] <;> fail) | fail)) only [bl_strings_indexFunc, n1, f1, bt, ↓reduceIte, k_a, k_b, Nat.reduceAdd, k_s, k_x, Int.reduceBEq, Int.reduceBNe, Int.reduceLT, Int.reduceLE, Int.reduceGT, Int.reduceGE, Int.reduceNeg]
    | false =>
      obtain ⟨H', i1, i2⟩ := indexF_loop hl hp hit r (i + 1) H2 g3 (n2.out f2 (by simp)) hO2
      refine ⟨H', fun j3 => ?_, i2⟩
      rw [ql_strings_indexFunc]
      rw [hc] at f1
      have bt : (false == true) = false := rfl
      simp (disch := (first | assumption | omega | (simp only [k_d, k_c, Nat.reduceAdd, Nat.reduceLeDiff, Nat.reduceLT] <;> fail) | (simp only [k_c]; omega) | (simp only [k_d, k_c, Nat.reduceAdd, Nat.reduceLeDiff, Nat.reduceLT, *] <;> fail) | fail)) only [bl_strings_indexFunc, n1, f1, bt, i1, Bool.false_eq_true, ↓reduceIte, k_a, k_b, Nat.reduceAdd, k_s, k_x, Int.reduceBEq, Int.reduceBNe, Int.reduceLT, Int.reduceLE, Int.reduceGT, Int.reduceGE, Int.reduceNeg]
theorem containsF_c {fv : AV} {l : Str} {p : Nat → Bool} {H0 : Hp} (hl : ∀ c ∈ l, c < 128) (hp : ∀ H, Out [] H0 H → ∀ c ∈ l, ∃ H', cK fv [.int .i32 (c : Nat)] H = some (.bool (p c), H') ∧ Out [] H H') :
    ∃ H', cK (.func (.func 56) [] []) [.str l, fv] H0 = some (.bool (l.any p), H') ∧ Out [] H0 H' := by
  have hrg := range_s Tryz.underlying9 l H0
  have o1 := sal_out H0 l
  have s1 := sal_sit H0 l
  obtain ⟨H', i1, i2⟩ := indexF_loop hl hp (Nat.le_refl _) l 0 (sal H0 l) List.drop_zero s1 o1
  refine ⟨H', c_strings_ContainsFunc ?_, i2⟩
  have h1 : cK (.func (.func 120) [] []) [.str l, fv, .bool true] H0 = some (.int .i64 (ixo (findF p l 0)), H') := by
    refine c_strings_indexFunc ?_
    unfold s_strings_indexFunc
    simp only [hrg, i1, k_s, k_x, Int.reduceBEq, Int.reduceBNe, Int.reduceLT, Int.reduceLE, Int.reduceGT, Int.reduceGE, Int.reduceNeg]
    cases findF p l 0 <;> rfl
  have h2 : cK (.func (.func 91) [] []) [.str l, fv] H0 = some (.int .i64 (ixo (findF p l 0)), H') := by
    refine c_strings_IndexFunc ?_
    unfold s_strings_IndexFunc
    simp only [h1, k_s, k_x, Int.reduceBEq, Int.reduceBNe, Int.reduceLT, Int.reduceLE, Int.reduceGT, Int.reduceGE, Int.reduceNeg]
  unfold s_strings_ContainsFunc
  simp only [h2, ixo_ge, findF_none, k_s, k_x, Int.reduceBEq, Int.reduceBNe, Int.reduceLT, Int.reduceLE, Int.reduceGT, Int.reduceGE, Int.reduceNeg]
theorem goodE1_c {e : Ev} {E : Nat} {H : Hp} (hE : Cs H E (evC e) 29 0) (c : Nat) : ∃ H', cK (.func (.func 57) [] [.ptr E 0]) [.int .i32 (c : Nat)] H = some (.bool (!goodF e c), H') ∧ Out [] H H' := by
  obtain ⟨H', h1, h2⟩ := good1e_c e c H
  have k8 : cellsAt H E 0 8 = some (evC e) := hE.cellsAt 8 0 (by rw [ev_len]; omega)
  refine ⟨H', c_event_Good_1 ?_, h2⟩
  unfold s_event_Good_1
  simp (disch := (first | assumption | omega | (simp only [k_d, k_c, Nat.reduceAdd, Nat.reduceLeDiff, Nat.reduceLT] <;> fail) | (simp only [k_c]; omega) | (simp only [k_d, k_c, Nat.reduceAdd, Nat.reduceLeDiff, Nat.reduceLT, *] <;> fail) | fail)) only [k8, h1, k_a, k_b, Nat.reduceAdd, k_s, k_x, Int.reduceBEq, Int.reduceBNe, Int.reduceLT, Int.reduceLE, Int.reduceGT, Int.reduceGE, Int.reduceNeg]
theorem fields_low (k : Int) : ∀ c ∈ fieldsM k, c < 128 := by
  unfold fieldsM
  intro c hc
  repeat' split at hc
  all_goals first | (simp at hc; omega) | (simp at hc)
theorem egood_c (e : Ev) (H : Hp) : ∃ H', cK (.func (.func 27) [] []) [.agg (evC e)] H = some (.bool (goodE e), H') ∧ Out [] H H' := by
  have hbx : bx 29 (.agg (evC e)) H = some (H.next, al H (evC e) 29 0) := bx_alA (by rw [ev_len]; omega)
  have o1 := al_out H (evC e) 29 0
  have c1 := al_cs H (evC e) 29 0
  generalize al H (evC e) 29 0 = H1 at *
  have k0 : cellAt H1 H.next 0 = some (.int .i64 e.kd) := c1.cellAt rfl
  have k8 : cellsAt H1 H.next 0 8 = some (evC e) := c1.cellsAt 8 0 (by rw [ev_len]; omega)
  unfold goodE
  cases hf : (fieldsM e.kd == []) with
  | true =>
    refine ⟨H1, c_event_Good ?_, o1⟩
    unfold s_event_Good
    simp (disch := (first | assumption | omega | (simp only [k_d, k_c, Nat.reduceAdd, Nat.reduceLeDiff, Nat.reduceLT] <;> fail) | (simp only [k_c]; omega) | (simp only [k_d, k_c, Nat.reduceAdd, Nat.reduceLeDiff, Nat.reduceLT, *] <;> fail) | fail)) only [hbx, k0, fields_c, hf, Bool.false_and, k_a, k_b, Nat.reduceAdd, k_s, k_x, Int.reduceBEq, Int.reduceBNe, Int.reduceLT, Int.reduceLE, Int.reduceGT, Int.reduceGE, Int.reduceNeg]
  | false =>
    obtain ⟨H2, h1, h2⟩ := only_c e (fields_low e.kd) H1
    have c2 := c1.out h2 (by simp)
    have k9 : cellsAt H2 H.next 0 8 = some (evC e) := c2.cellsAt 8 0 (by rw [ev_len]; omega)
    obtain ⟨q1, q2⟩ := eq_ev (onlyM e (fieldsM e.kd)) e H2
    have hs : same (.agg (evC e)) (.agg (evC e)) = true := by
      have hk : (IntKind.i64 == IntKind.i64) = true := rfl
      simp [same, evC, sameL, sameS]
    cases he : eqE' (onlyM e (fieldsM e.kd)) e with
    | false =>
      refine ⟨H2, c_event_Good ?_, o1.trans h2⟩
      rw [he] at q2
      unfold s_event_Good
      simp (disch := (first | assumption | omega | (simp only [k_d, k_c, Nat.reduceAdd, Nat.reduceLeDiff, Nat.reduceLT] <;> fail) | (simp only [k_c]; omega) | (simp only [k_d, k_c, Nat.reduceAdd, Nat.reduceLeDiff, Nat.reduceLT, *] <;> fail) | fail)) only [hbx, k0, fields_c, hf, k8, h1, k9, q1, IFT_t, q2, SM_t hs, Bool.false_and, Bool.true_and, k_a, k_b, Nat.reduceAdd, k_s, k_x, Int.reduceBEq, Int.reduceBNe, Int.reduceLT, Int.reduceLE, Int.reduceGT, Int.reduceGE, Int.reduceNeg]
    | true =>
      obtain ⟨H3, h3, h4⟩ := containsF_c (fv := .func (.func 57) [] [.ptr H.next 0]) (p := fun c => !goodF e c) (H0 := H2) (fields_low e.kd) (fun H' k c _ => goodE1_c (c2.out k (by simp)) c)
      refine ⟨H3, c_event_Good ?_, (o1.trans h2).trans h4⟩
      rw [he] at q2
      have hall : (!((fieldsM e.kd).any fun c => !goodF e c)) = (fieldsM e.kd).all (goodF e) := by
        rw [List.not_any_eq_all_not]
        simp
      unfold s_event_Good
      simp (disch := (first | assumption | omega | (simp only [k_d, k_c, Nat.reduceAdd, Nat.reduceLeDiff, Nat.reduceLT] <;> fail) | (simp only [k_c]; omega) | (simp only [k_d, k_c, Nat.reduceAdd, Nat.reduceLeDiff, Nat.reduceLT, *] <;> fail) | fail)) only [hbx, k0, fields_c, hf, k8, h1, k9, q1, IFT_t, q2, SM_t hs, h3, hall, Bool.true_and, k_a, k_b, Nat.reduceAdd, k_s, k_x, Int.reduceBEq, Int.reduceBNe, Int.reduceLT, Int.reduceLE, Int.reduceGT, Int.reduceGE, Int.reduceNeg]
end Go.Proofs.YtkhhnpkmblldbaaGreatDoor.DfK
namespace Go.Proofs.YtkhhnpkmblldbaaGreatDoor.DfK
open Go Am Am.K DfEnv DfM LibP DfG
set_option linter.unusedVariables false
set_option linter.unusedSimpArgs false
set_option maxRecDepth 10000
set_option maxHeartbeats 1000000
abbrev Ky := Str × Str
def kyC (k : Ky) : List AV := [.str k.1, .str k.2]
abbrev Ke := Ky × Int
/-- a map of keys -/
def kyM (E : List (Ke × Nat)) : List ME := E.map fun x => ⟨.agg (kyC x.1.1), .int .i64 x.1.2, x.2⟩
abbrev kv (km : Nat) (lx : AV) : List AV := [.int .i64 128, .map km, lx]
structure KO (H : Hp) (kp km : Nat) (lx : AV) (ks : List Ke) : Prop where
  c : Cs H kp (kv km lx) 147 0
  m : ∃ bs c, bs.length = ks.length ∧ Mp H km (kyM (ks.zip bs)) c
  l : OL H 69 2 lx (ks.map fun x => kyC x.1)
  nd : (ks.map (·.1)).Nodup
  d1 : kp ≠ km
  d2 : ∀ j ∈ rid lx, j ≠ kp ∧ j ≠ km
def fpK (kp km : Nat) (lx : AV) : List Nat := kp :: km :: rid lx
theorem KO.out {H H' : Hp} {kp km : Nat} {lx : AV} {ks : List Ke} {S : List Nat} (h : KO H kp km lx ks) (k : Out S H H') (hs : ∀ j ∈ fpK kp km lx, j ∉ S) : KO H' kp km lx ks := by
  obtain ⟨bs, c, h1, h2⟩ := h.m
  exact ⟨h.c.out k (hs _ (.head _)), ⟨bs, c, h1, h2.out k (hs _ (.tail _ (.head _)))⟩, h.l.out k fun j hj => hs j (.tail _ (.tail _ hj)), h.nd, h.d1, h.d2⟩
theorem KO.out0 {H H' : Hp} {kp km : Nat} {lx : AV} {ks : List Ke} (h : KO H kp km lx ks) (k : Out [] H H') : KO H' kp km lx ks := h.out k fun _ _ q => by cases q
theorem KO.lt {H : Hp} {kp km : Nat} {lx : AV} {ks : List Ke} (h : KO H kp km lx ks) : ∀ j ∈ fpK kp km lx, j < H.next := by
  intro j hj
  obtain ⟨bs, c, h1, h2⟩ := h.m
  rcases List.mem_cons.1 hj with rfl | hj
  · exact h.c.1
  · rcases List.mem_cons.1 hj with rfl | hj
    · exact h2.1
    · exact h.l.1.rw.lt j hj
theorem keysNew_c (H : Hp) : ∃ kp km H', cK (.func (.func 37) [] []) [.int .i64 128] H = some (.ptr kp 0, H') ∧ KO H' kp km .slice0 [] ∧ Out [] H H' ∧ H.next ≤ kp ∧ H.next ≤ km := by
  obtain ⟨H1, m1, m2, m3, m4⟩ := mk0_ok H
  have hf : fl [(.int .i64 0), .map0, .slice0] [(0, 1, .int .i64 128), (1, 1, .map H.next)] = some (kv H.next .slice0) := rfl
  have hbx : bx 147 (.agg (kv H.next .slice0)) H1 = some (H1.next, al H1 (kv H.next .slice0) 147 0) := bx_alA (by simp)
  have o2 := al_out H1 (kv H.next .slice0) 147 0
  have c2 := al_cs H1 (kv H.next .slice0) 147 0
  refine ⟨H1.next, H.next, al H1 (kv H.next .slice0) 147 0, c_keys_New ?_, ⟨c2, ⟨[], 0, rfl, m2.out o2 (by simp)⟩, OL.nil _ _ _, by simp, by omega, fun j hj => by cases hj⟩, m3.trans o2, by omega, Nat.le_refl _⟩
  unfold s_keys_New
  simp only [max_i, min_i, Int.reduceLT, if_false, if_true, m1, hf, hbx, k_s, k_x, Int.reduceBEq, Int.reduceBNe, Int.reduceLT, Int.reduceLE, Int.reduceGT, Int.reduceGE, Int.reduceNeg]
end Go.Proofs.YtkhhnpkmblldbaaGreatDoor.DfK
namespace Go.Proofs.YtkhhnpkmblldbaaGreatDoor.DfK
open Go Am Am.K DfEnv DfM LibP DfG
set_option linter.unusedVariables false
set_option linter.unusedSimpArgs false
set_option maxRecDepth 10000
set_option maxHeartbeats 1000000
/-- a machine without runs -/
def CL (H : Hp) (p tm kp : Nat) (z : Int) : Prop := Cs H p [.int .i64 z, .slice0, .map tm, .slice0, .ptr kp 0] 88 0
theorem clNew_c {H : Hp} (hn : 11 ≤ H.next) : ∃ p tm kp H', cK (.func (.func 15) [] []) [] H = some (.ptr p 0, H') ∧ CL H' p tm kp 0 ∧ Out [] H H' ∧ H.next ≤ p := by
  obtain ⟨H1, m1, m2, m3, m4⟩ := mk0_ok H
  obtain ⟨kp, km, H2, k1, k2, k3, k4, k5⟩ := keysNew_c H1
  have hf : fl [(.int .i64 0), .slice0, .map0, .slice0, .ptr0] [(2, 1, .map H.next), (4, 1, .ptr kp 0)] = some [.int .i64 0, .slice0, .map H.next, .slice0, .ptr kp 0] := rfl
  have hbx : bx 88 (.agg [.int .i64 0, .slice0, .map H.next, .slice0, .ptr kp 0]) H2 = some (H2.next, al H2 [.int .i64 0, .slice0, .map H.next, .slice0, .ptr kp 0] 88 0) := bx_alA (by simp)
  have o3 := al_out H2 [.int .i64 0, .slice0, .map H.next, .slice0, .ptr kp 0] 88 0
  have c3 := al_cs H2 [.int .i64 0, .slice0, .map H.next, .slice0, .ptr kp 0] 88 0
  have n2 := k3.1
  refine ⟨H2.next, H.next, kp, al H2 [.int .i64 0, .slice0, .map H.next, .slice0, .ptr kp 0] 88 0, c_flow_New ?_, c3, (m3.trans k3).trans o3, by omega⟩
  unfold s_flow_New
  simp only [m1, k1, hf, hbx, k_s, k_x, Int.reduceBEq, Int.reduceBNe, Int.reduceLT, Int.reduceLE, Int.reduceGT, Int.reduceGE, Int.reduceNeg]
theorem clClock_c {H : Hp} {p tm kp : Nat} {z : Int} (h : CL H p tm kp z) : cK (.func (.func 17) [] []) [.ptr p 0] H = some (.int .i64 z, H) := by
  have k0 : cellAt H p 0 = some (.int .i64 z) := h.cellAt rfl
  refine c_flow_Flow_Clock ?_
  unfold s_flow_Flow_Clock
  simp (disch := (first | assumption | omega | (simp only [k_d, k_c, Nat.reduceAdd, Nat.reduceLeDiff, Nat.reduceLT] <;> fail) | (simp only [k_c]; omega) | (simp only [k_d, k_c, Nat.reduceAdd, Nat.reduceLeDiff, Nat.reduceLT, *] <;> fail) | fail)) only [k0, k_a, k_b, Nat.reduceAdd, k_s, k_x, Int.reduceBEq, Int.reduceBNe, Int.reduceLT, Int.reduceLE, Int.reduceGT, Int.reduceGE, Int.reduceNeg]
theorem clTick_c {H : Hp} {p tm kp : Nat} {z : Int} (h : CL H p tm kp z) (now : Int) :
    ∃ H', cK (.func (.func 40) [] []) [.ptr p 0, .int .i64 now] H = some (.int .i64 (if now ≤ z then 10 else 0), H') ∧ CL H' p tm kp (if now ≤ z then z else now) ∧ Out [p] H H' := by
  have k0 : cellAt H p 0 = some (.int .i64 z) := h.cellAt rfl
  by_cases hn : now ≤ z
  · have d : decide (now ≤ z) = true := decide_eq_true hn
    rw [if_pos hn, if_pos hn]
    refine ⟨H, c_flow_Flow_tick ?_, h, Out.refl _ _⟩
    unfold s_flow_Flow_tick
    simp (disch := (first | assumption | omega | (simp only [k_d, k_c, Nat.reduceAdd, Nat.reduceLeDiff, Nat.reduceLT] <;> fail) | (simp only [k_c]; omega) | (simp only [k_d, k_c, Nat.reduceAdd, Nat.reduceLeDiff, Nat.reduceLT, *] <;> fail) | fail)) only [k0, d, k_a, k_b, Nat.reduceAdd, k_s, k_x, Int.reduceBEq, Int.reduceBNe, Int.reduceLT, Int.reduceLE, Int.reduceGT, Int.reduceGE, Int.reduceNeg]
  · have d : decide (now ≤ z) = false := decide_eq_false hn
    rw [if_neg hn, if_neg hn]
    obtain ⟨H1, s1, s2, s3, s4⟩ := st1 h (by decide) (o := 0) (by simp) (v := .int .i64 now) rfl
    have s2' : CL H1 p tm kp now := s2
    have k3 : cellAt H1 p 3 = some .slice0 := s2'.cellAt rfl
    have hl : lenx .slice0 = some (.int .i64 0) := rfl
    have i1 : ∀ j31 : K.Fn 0, l_flow_Flow_tick JN GO cK j31 (.ptr p 0) (.int .i64 now) (.int .i64 0) (.int .i64 0) H1 = j31 H1 := fun j31 => by
      rw [ql_flow_Flow_tick]
      have h0 : decide ((0 : Int) < 0) = false := rfl
      simp only [bl_flow_Flow_tick, h0, k_s, k_x, Int.reduceBEq, Int.reduceBNe, Int.reduceLT, Int.reduceLE, Int.reduceGT, Int.reduceGE, Int.reduceNeg]
    refine ⟨H1, c_flow_Flow_tick ?_, s2', s3⟩
    unfold s_flow_Flow_tick
    simp (disch := (first | assumption | omega | (simp only [k_d, k_c, Nat.reduceAdd, Nat.reduceLeDiff, Nat.reduceLT] <;> fail) | (simp only [k_c]; omega) | (simp only [k_d, k_c, Nat.reduceAdd, Nat.reduceLeDiff, Nat.reduceLT, *] <;> fail) | fail)) only [k0, d, s1, k3, hl, i1, k_a, k_b, Nat.reduceAdd, k_s, k_x, Int.reduceBEq, Int.reduceBNe, Int.reduceLT, Int.reduceLE, Int.reduceGT, Int.reduceGE, Int.reduceNeg]
abbrev eV6 (z : Int) : Ev := ⟨6, 0, 0, 0, z, [], [], []⟩
theorem goodV6 (z : Int) : goodE (eV6 z) = (decide (1 ≤ z) && decide (z ≤ 1099511627776)) := by
  unfold goodE
  have h1 : fieldsM (eV6 z).kd = [78] := rfl
  rw [h1]
  have h2 : onlyM (eV6 z) [78] = eV6 z := rfl
  rw [h2]
  have h3 : eqE' (eV6 z) (eV6 z) = true := by simp [eqE']
  rw [h3]
  simp only [List.all_cons, List.all_nil, Bool.and_true, Bool.true_and]
  unfold goodF inI
  rfl
/-- the new clock, and the error -/
def clM (c z : Int) : Int × Int := if 1 ≤ z ∧ z ≤ 1099511627776 then (if z ≤ c then (c, 10) else (z, 0)) else (c, 1)
theorem clApply_c {H : Hp} {p tm kp : Nat} {c : Int} (h : CL H p tm kp c) (z : Int) :
    ∃ H', cK (.func (.func 16) [] []) [.ptr p 0, .agg (evC (eV6 z))] H = some (.int .i64 (clM c z).2, H') ∧ CL H' p tm kp (clM c z).1 ∧ Out [p] H H' := by
  have hbx : bx 29 (.agg (evC (eV6 z))) H = some (H.next, al H (evC (eV6 z)) 29 0) := bx_alA (by rw [ev_len]; omega)
  have o1 := al_out H (evC (eV6 z)) 29 0
  have c1 := al_cs H (evC (eV6 z)) 29 0
  generalize al H (evC (eV6 z)) 29 0 = H1 at *
  have k8 : cellsAt H1 H.next 0 8 = some (evC (eV6 z)) := c1.cellsAt 8 0 (by rw [ev_len]; omega)
  obtain ⟨H2, g1, g2⟩ := egood_c (eV6 z) H1
  have o2 := o1.trans g2
  have c2 := c1.out g2 (by simp)
  have F2 : CL H2 p tm kp c := h.out o2 (by simp)
  have E0 : cellAt H2 H.next 0 = some (.int .i64 6) := c2.cellAt rfl
  have E4 : cellAt H2 H.next 4 = some (.int .i64 z) := c2.cellAt rfl
  rw [goodV6] at g1
  unfold clM
  by_cases hz : 1 ≤ z ∧ z ≤ 1099511627776
  · have e1 : (decide (1 ≤ z) && decide (z ≤ 1099511627776)) = true := by simp [hz.1, hz.2]
    rw [e1] at g1
    rw [if_pos hz]
    obtain ⟨H3, d1, d2, d3⟩ := clTick_c F2 z
    have b1 : ((6 : Int) == 1) = false := rfl
    have b2 : ((6 : Int) == 2) = false := rfl
    have b6 : ((6 : Int) == 6) = true := rfl
    refine ⟨H3, c_flow_Flow_Apply (?_ : _ = some (AV.int .i64 (if z ≤ c then (c, (10 : Int)) else (z, 0)).2, H3)), ?_, (o2.mono fun j hj => by cases hj).trans d3⟩
    · rw [show (if z ≤ c then (c, (10 : Int)) else (z, 0)).2 = if z ≤ c then 10 else 0 by split <;> rfl]
      unfold s_flow_Flow_Apply
      simp (disch := (first | assumption | omega | (simp only [k_d, k_c, Nat.reduceAdd, Nat.reduceLeDiff, Nat.reduceLT] <;> fail) | (simp only [k_c]; omega) | (simp only [k_d, k_c, Nat.reduceAdd, Nat.reduceLeDiff, Nat.reduceLT, *] <;> fail) | fail)) only [hbx, k8, g1, E0, E4, b1, b2, b6, d1, k_a, k_b, Nat.reduceAdd, k_s, k_x, Int.reduceBEq, Int.reduceBNe, Int.reduceLT, Int.reduceLE, Int.reduceGT, Int.reduceGE, Int.reduceNeg]
    · rw [show (if z ≤ c then (c, (10 : Int)) else (z, 0)).1 = if z ≤ c then c else z by split <;> rfl]
      exact d2
  · have e1 : (decide (1 ≤ z) && decide (z ≤ 1099511627776)) = false := by
      rw [Bool.and_eq_false_iff, decide_eq_false_iff_not, decide_eq_false_iff_not]; omega
    rw [e1] at g1
    rw [if_neg hz]
    refine ⟨H2, c_flow_Flow_Apply ?_, F2, o2.mono fun j hj => by cases hj⟩
    unfold s_flow_Flow_Apply
    simp (disch := (first | assumption | omega | (simp only [k_d, k_c, Nat.reduceAdd, Nat.reduceLeDiff, Nat.reduceLT] <;> fail) | (simp only [k_c]; omega) | (simp only [k_d, k_c, Nat.reduceAdd, Nat.reduceLeDiff, Nat.reduceLT, *] <;> fail) | fail)) only [hbx, k8, g1, k_a, k_b, Nat.reduceAdd, k_s, k_x, Int.reduceBEq, Int.reduceBNe, Int.reduceLT, Int.reduceLE, Int.reduceGT, Int.reduceGE, Int.reduceNeg]
theorem clM_ok (c z : Int) (h : 0 ≤ c) : ((clM c z).2 == 0) = (decide (c < z) && decide (z ≤ 1099511627776)) ∧ (clM c z).1 = (if c < z ∧ z ≤ 1099511627776 then z else c) ∧ 0 ≤ (clM c z).1 := by
  unfold clM
  by_cases h1 : 1 ≤ z ∧ z ≤ 1099511627776
  · rw [if_pos h1]
    by_cases h3 : z ≤ c
    · rw [if_pos h3, if_neg (by omega), decide_eq_false (by omega : ¬ c < z)]; exact ⟨rfl, rfl, h⟩
    · rw [if_neg h3, if_pos (by omega), decide_eq_true (by omega : c < z), decide_eq_true h1.2]; exact ⟨rfl, rfl, by show 0 ≤ z; omega⟩
  · rw [if_neg h1, if_neg (by omega)]
    refine ⟨?_, rfl, h⟩
    have : (decide (c < z) && decide (z ≤ 1099511627776)) = false := by
      rw [Bool.and_eq_false_iff, decide_eq_false_iff_not, decide_eq_false_iff_not]; omega
    rw [this]; rfl
theorem pickL {α : Type} (Q : Nat → α → Prop) : ∀ n, (∀ j, j < n → ∃ a, Q j a) → ∃ l : List α, l.length = n ∧ ∀ (j : Nat) (a : α), l[j]? = some a → Q j a
  | 0, _ => ⟨[], rfl, fun j a h => by simp at h⟩
  | n + 1, h => by
    obtain ⟨l, hl, hq⟩ := pickL Q n fun j hj => h j (by omega)
    obtain ⟨a, ha⟩ := h n (by omega)
    refine ⟨l ++ [a], by simp [hl], fun j b hb => ?_⟩
    by_cases hj : j < l.length
    · rw [List.getElem?_append_left hj] at hb; exact hq j b hb
    · rw [List.getElem?_append_right (by omega)] at hb
      have : j - l.length = 0 := by
        have := (List.getElem?_eq_some_iff.1 hb).1
        simp at this; omega
      rw [this] at hb
      cases hb
      rw [show j = n by omega]; exact ha
theorem is_i {H : Hp} {k : IntKind} {l : List AV} {d : D} (h : Is H (.int k) l d) : ∃ z, l = [.int k z] ∧ k.min ≤ z ∧ z ≤ k.max := by
  cases h with
  | int k z h => exact ⟨z, rfl, h⟩
theorem flat_of {es : Nat} : ∀ {cs : List AV} {L : List (List AV)}, cs.length = L.length * es → (∀ (i : Nat) (c : List AV), L[i]? = some c → (cs.drop (i * es)).take es = c ∧ c.length = es) → cs = L.flatten
  | cs, [], h, _ => by
    simp at h; simp [h]
  | cs, a :: L, h, hq => by
    obtain ⟨h1, h2⟩ := hq 0 a rfl
    rw [Nat.zero_mul, List.drop_zero] at h1
    simp only [List.length_cons, Nat.add_mul, Nat.one_mul] at h
    have ih := flat_of (es := es) (cs := cs.drop es) (L := L) (by rw [List.length_drop]; omega) fun i c hc => by
      obtain ⟨g1, g2⟩ := hq (i + 1) c hc
      refine ⟨?_, g2⟩
      rw [List.drop_drop, show es + i * es = (i + 1) * es by rw [Nat.add_mul, Nat.one_mul]; omega]
      exact g1
    rw [List.flatten_cons, ← ih, ← h1, List.take_append_drop]
/-- a row of parts -/
theorem row_of {α : Type} {H : Hp} {es : Nat} {ty : Ty} {x : AV} {d : D} (C : α → List AV) (hC : ∀ a, (C a).length = es) (Q : α → Prop) (h1 : ∀ (l : List AV) (d : D), l.length = es → Is H ty l d → ∃ a, l = C a ∧ Q a) (hes : 0 < es) (h : Is H (.slice es ty) [x] d) :
    ∃ l : List α, RL H es x (l.map C) ∧ ∀ a ∈ l, Q a := by
  cases h with
  | @slice _ _ _ cs ds hr hl hd =>
    obtain ⟨l, g1, g2⟩ := pickL (fun j (a : α) => (cs.drop (j * es)).take es = C a ∧ Q a) ds.length (fun j hj => by
      have hs := hd j _ (List.getElem?_eq_getElem hj)
      have hle : (j + 1) * es ≤ ds.length * es := Nat.mul_le_mul_right _ hj
      rw [Nat.add_mul, Nat.one_mul] at hle
      exact h1 _ _ (by rw [List.length_take, List.length_drop]; omega) hs)
    refine ⟨l, ⟨?_, fun c hc => ?_⟩, fun a ha => ?_⟩
    · have : cs = (l.map C).flatten := flat_of (by rw [List.length_map, g1]; exact hl) fun i c hc => by
        rw [List.getElem?_map, Option.map_eq_some_iff] at hc
        obtain ⟨a, ha, rfl⟩ := hc
        exact ⟨(g2 i a ha).1, hC a⟩
      rw [← this]; exact hr
    · obtain ⟨a, _, rfl⟩ := List.mem_map.1 hc
      exact hC a
    · obtain ⟨j, hj⟩ := List.getElem?_of_mem ha
      exact (g2 j a hj).2
theorem flat1 {α : Type} (c : α → AV) : ∀ l : List α, (l.map fun a => [c a]).flatten = l.map c
  | [] => rfl
  | a :: l => by rw [List.map_cons, List.flatten_cons, flat1 c l]; rfl
theorem ints_of {H : Hp} {x : AV} {d : D} (h : Is H (.slice 1 (.int .i64)) [x] d) : ∃ l : List Int, Rw H 1 x (ints l) ∧ ∀ z ∈ l, -9223372036854775808 ≤ z ∧ z ≤ 9223372036854775807 := by
  obtain ⟨l, h1, h2⟩ := row_of (fun z : Int => [AV.int .i64 z]) (fun _ => rfl) (fun z => -9223372036854775808 ≤ z ∧ z ≤ 9223372036854775807) (fun l d _ hi => by
    obtain ⟨z, h1, h2, h3⟩ := is_i hi
    exact ⟨z, h1, h2, h3⟩) (by decide) h
  refine ⟨l, ?_, h2⟩
  have := h1.1
  rw [flat1 (fun z : Int => AV.int .i64 z)] at this
  exact this
theorem intC_at {H : Hp} {x : AV} {l : List Int} (h : Rw H 1 x (ints l)) {i : Nat} {z : Int} (hz : l[i]? = some z) (k : IntKind) : ∃ q, ia 1 x (.int k i) = some q ∧ ld q H = some (.int .i64 z) := h.ia1 (ints_get hz) k
theorem cl_loop {p tm kp : Nat} {lx : AV} {l : List Int} (hl : l.length ≤ 50) (hlx : ∀ j ∈ rid lx, j < p) : ∀ (r : List Int) (i : Nat) (H : Hp) (c : Int), i ≤ l.length → l.drop i = r → Rw H 1 lx (ints l) → CL H p tm kp c → 0 ≤ c →
    ∃ H', (∀ j8 : K.Fn 0, l_outriderlaw18_FlowClock JN GO cK j8 lx (.ptr p 0) (.int .i64 c) (.int .i64 (i : Nat)) H = j8 H')
  | [], i, H, c, hi, h, hR, hF, hc => by
    obtain rfl := drop_nil hi h
    have hlen := hR.len1
    rw [ints_len] at hlen
    refine ⟨H, fun j8 => ?_⟩
    rw [ql_outriderlaw18_FlowClock]
    simp only [bl_outriderlaw18_FlowClock, hlen, lt_f, k_s, k_x, Int.reduceBEq, Int.reduceBNe, Int.reduceLT, Int.reduceLE, Int.reduceGT, Int.reduceGE, Int.reduceNeg]
  | z :: r, i, H, c, hi, h, hR, hF, hc => by
    obtain ⟨g1, g2, g3⟩ := hd_drop h
    have es := wrap_s g1 (by omega)
    have hlen := hR.len1
    rw [ints_len] at hlen
    obtain ⟨q, q1, q2⟩ := intC_at hR g2 .i64
    obtain ⟨H1, c1, c2, c3⟩ := clApply_c hF z
    have c1' : cK (.func (.func 16) [] []) [.ptr p 0, .agg [.int .i64 6, .int .i64 0, .int .i64 0, .int .i64 0, .int .i64 z, .str [], .str [], .str []]] H = some (.int .i64 (clM c z).2, H1) := c1
    have hR1 : Rw H1 1 lx (ints l) := hR.out c3 fun j hj z => by have := hlx j hj; rw [List.mem_singleton] at z; omega
    obtain ⟨q', q3, q4⟩ := intC_at hR1 g2 .i64
    obtain ⟨s1, s2, s3⟩ := clM_ok c z hc
    have hck := clClock_c c2
    obtain ⟨H', k1⟩ := cl_loop hl hlx r (i + 1) H1 (clM c z).1 g1 g3 hR1 c2 s3
    have hq : q' = q := by rw [q3] at q1; exact Option.some.inj q1
    subst hq
    have bbe : ∀ b : Bool, (!(b == b)) = false := fun b => by cases b <;> rfl
    refine ⟨H', fun j8 => ?_⟩
    rw [ql_outriderlaw18_FlowClock]
    by_cases h1 : c < z
    · have d1 : decide (c < z) = true := decide_eq_true h1
      by_cases h2 : z ≤ 1099511627776
      · have d2 : decide (z ≤ 1099511627776) = true := decide_eq_true h2
        rw [d1, d2, Bool.and_self] at s1
        rw [if_pos ⟨h1, h2⟩] at s2
        rw [s2] at hck k1
        simp (disch := (first | assumption | omega | (simp only [k_d, k_c, Nat.reduceAdd, Nat.reduceLeDiff, Nat.reduceLT] <;> fail) | (simp only [k_c]; omega) | (simp only [k_d, k_c, Nat.reduceAdd, Nat.reduceLeDiff, Nat.reduceLT, *] <;> fail) | fail)) only [bl_outriderlaw18_FlowClock, hlen, lt_t g1, q1, q2, c1', q4, d1, d2, s1, bbe, hck, es, k1, k_a, k_b, Nat.reduceAdd, k_s, k_x, Int.reduceBEq, Int.reduceBNe, Int.reduceLT, Int.reduceLE, Int.reduceGT, Int.reduceGE, Int.reduceNeg]
      · have d2 : decide (z ≤ 1099511627776) = false := decide_eq_false h2
        rw [d1, d2, Bool.and_false] at s1
        rw [if_neg (fun q => h2 q.2)] at s2
        rw [s2] at hck k1
        simp (disch := (first | assumption | omega | (simp only [k_d, k_c, Nat.reduceAdd, Nat.reduceLeDiff, Nat.reduceLT] <;> fail) | (simp only [k_c]; omega) | (simp only [k_d, k_c, Nat.reduceAdd, Nat.reduceLeDiff, Nat.reduceLT, *] <;> fail) | fail)) only [bl_outriderlaw18_FlowClock, hlen, lt_t g1, q1, q2, c1', q4, d1, d2, s1, bbe, hck, es, k1, k_a, k_b, Nat.reduceAdd, k_s, k_x, Int.reduceBEq, Int.reduceBNe, Int.reduceLT, Int.reduceLE, Int.reduceGT, Int.reduceGE, Int.reduceNeg]
    · have d1 : decide (c < z) = false := decide_eq_false h1
      rw [d1, Bool.false_and] at s1
      rw [if_neg (fun q => h1 q.1)] at s2
      rw [s2] at hck k1
      simp (disch := (first | assumption | omega | (simp only [k_d, k_c, Nat.reduceAdd, Nat.reduceLeDiff, Nat.reduceLT] <;> fail) | (simp only [k_c]; omega) | (simp only [k_d, k_c, Nat.reduceAdd, Nat.reduceLeDiff, Nat.reduceLT, *] <;> fail) | fail)) only [bl_outriderlaw18_FlowClock, hlen, lt_t g1, q1, q2, c1', q4, d1, s1, bbe, hck, es, k1, k_a, k_b, Nat.reduceAdd, k_s, k_x, Int.reduceBEq, Int.reduceBNe, Int.reduceLT, Int.reduceLE, Int.reduceGT, Int.reduceGE, Int.reduceNeg]
theorem flowCk_c {lx : AV} {l : List Int} {H : Hp} (hR : Rw H 1 lx (ints l)) (hT : hasT H begin0) (hnx : 11 ≤ H.next) : ∃ H', cK (.func (.func 3) [] []) [lx] H = some (.bool true, H') := by
  have haw := awake_c an hT hnx
  have hlen := hR.len1
  rw [ints_len] at hlen
  by_cases hl : l.length ≤ 50
  · have d1 : decide ((50 : Int) < (l.length : Int)) = false := decide_eq_false (by omega)
    obtain ⟨p, tm, kp, H1, n1, n2, n3, n4⟩ := clNew_c hnx
    have hR1 := hR.out0 n3
    obtain ⟨H', k1⟩ := cl_loop (p := p) hl (fun j hj => Nat.lt_of_lt_of_le (hR.lt j hj) n4) l 0 H1 0 (Nat.zero_le _) List.drop_zero hR1 n2 (Int.le_refl _)
    rw [show (((0 : Nat) : Int)) = 0 from rfl] at k1
    refine ⟨H', c_outriderlaw18_FlowClock ?_⟩
    unfold s_outriderlaw18_FlowClock
    simp (disch := (first | assumption | omega | (simp only [k_d, k_c, Nat.reduceAdd, Nat.reduceLeDiff, Nat.reduceLT] <;> fail) | (simp only [k_c]; omega) | (simp only [k_d, k_c, Nat.reduceAdd, Nat.reduceLeDiff, Nat.reduceLT, *] <;> fail) | fail)) only [haw, hlen, d1, n1, k1, k_a, k_b, Nat.reduceAdd, k_s, k_x, Int.reduceBEq, Int.reduceBNe, Int.reduceLT, Int.reduceLE, Int.reduceGT, Int.reduceGE, Int.reduceNeg]
  · have d1 : decide ((50 : Int) < (l.length : Int)) = true := decide_eq_true (by omega)
    refine ⟨H, c_outriderlaw18_FlowClock ?_⟩
    unfold s_outriderlaw18_FlowClock
    simp (disch := (first | assumption | omega | (simp only [k_d, k_c, Nat.reduceAdd, Nat.reduceLeDiff, Nat.reduceLT] <;> fail) | (simp only [k_c]; omega) | (simp only [k_d, k_c, Nat.reduceAdd, Nat.reduceLeDiff, Nat.reduceLT, *] <;> fail) | fail)) only [haw, hlen, d1, k_a, k_b, Nat.reduceAdd, k_s, k_x, Int.reduceBEq, Int.reduceBNe, Int.reduceLT, Int.reduceLE, Int.reduceGT, Int.reduceGE, Int.reduceNeg]
theorem ck_top {H : Hp} {as' : List AV} {ds : List D} (h : ArgsIs H [.slice 1 (.int .i64)] as' ds) (hT : hasT H begin0) (hn : 11 ≤ H.next) : ∃ H', cK (.func (.func 3) [] []) as' H = some (.bool true, H') := by
  cases h with
  | cons h0 h =>
  cases h
  obtain ⟨l, hl, _⟩ := ints_of (isA_row h0)
  exact flowCk_c hl hT hn
end Go.Proofs.YtkhhnpkmblldbaaGreatDoor.DfK
namespace Go.Proofs.YtkhhnpkmblldbaaGreatDoor.Hand
open Go
set_option linter.unusedVariables false

theorem size_open {P : Program} {w : World} (h : w.ShapedOpen P) {g : Nat} (hg : g + 1 = P.globals.size) (hr : (((begin P (fun _ _ => 0) default).world.heap[g]?).bind Obj.row?).isSome = true) : P.globals.size ≤ w.heap.size := by
  obtain ⟨⟨zero, t⟩, hr⟩ := Option.isSome_iff_exists.1 hr
  obtain ⟨cs, hc, _⟩ := h.1 g zero t (by omega) hr
  have := (Array.getElem?_eq_some_iff.1 hc).1
  omega

variable {H : Type} {enc : TypeId × Value → H}
theorem handed {a : Assume} {C : Checked} {os : Os} {f : FuncId} {fn : Func} {s : ChangeSpec} {conds : List PathCond} {apart fresh handsOn again : Bool} {X : World → Array Value → Prop} {g : Nat}
    (hg : g + 1 = C.prog.globals.size) (hr : (((begin C.prog (fun _ _ => 0) default).world.heap[g]?).bind Obj.row?).isSome = true)
    (hX : ∀ (w w' : World) (args : Array Value), w.heap = w'.heap → X w args → X w' args)
    (own : ownKnob C.prog.godebug = none) (started : os.Started) (noInit : C.prog.inits.idxOf? f = none) (hfn : C.prog.funcs[f]? = some fn)
    (witness : ∃ (w : World) (tape : Tape) (i : Input), w.os = os ∧ (w.forCall tape i).Shaped C.prog ∧ i.vars = [] ∧ Input.okWide C.prog (w.forCall tape i) .any w.heap.size f i ∧
      ((s.pre enc C.prog fn conds apart (w.forCall tape i).memory i.args ∧ X (w.forCall tape i).memory i.args) ∧ sizedMet enc C.prog fn (OpenSpec.ofChange s) apart (w.forCall tape i).memory i.args) ∧ a.holds C.prog (lone (Frame.enter C.prog f i.args .normal) [] (w.forCall tape i)))
    (contract : ∀ (W : World) (base : Nat) (args : Array Value) (ds gs : List (DataW H)) (before : List MemPlace), C.prog.globals.size ≤ W.heap.size →
      (∀ (j : Nat) t v, fn.params[j]? = some t → args[j]? = some v → Value.okWide C.prog W .any base t v) →
      DataW.Whole enc C.prog fn.params.toList s.vars apart W args.toList ds gs before →
      conds.all (PathCond.test C.prog ⟨fn.params.toList, ds, s.plain.varTypes C.prog, gs⟩) = true →
      (DataW.weightsEach C.prog (fn.params.toList ++ s.plain.varTypes C.prog) (ds ++ gs)).all (· ≤ reachBytes) = true → X W args →
      a.holds C.prog (lone (Frame.enter C.prog f args .normal) [] W) →
      Calls C.prog f args W fun e W' => ∃ v, e = .returned v ∧ s.post enc C.prog fn apart fresh handsOn again W args v W') :
    ReturnsInHanded a C os f .any (fun w args => (s.pre enc C.prog fn conds apart w args ∧ X w args) ∧ sizedMet enc C.prog fn (OpenSpec.ofChange s) apart w args) (s.post enc C.prog fn apart fresh handsOn again) :=
  returnsInHanded_of_calls own started noInit witness fun w tape i _ hsh _ hok hpre hholds => by
    obtain ⟨_, _, _, fn', hfn', _, _, _, _, hval⟩ := hok
    obtain rfl : fn' = fn := Option.some.inj (hfn'.symm.trans hfn)
    obtain ⟨⟨⟨ds, gs, before, hw, hc⟩, hx⟩, hz⟩ := hpre
    refine (contract (w.forCall tape i) w.heap.size i.args ds gs before (size_open hsh hg hr) hval (DataW.Whole.of_heap (w' := w.forCall tape i) (by rfl) hw) hc (hz.weights hw) (hX _ _ _ (by rfl) hx) hholds).mono fun e W' hp => ?_
    obtain ⟨v, rfl, hp⟩ := hp
    exact ChangeSpec.post_blind hp
end Go.Proofs.YtkhhnpkmblldbaaGreatDoor.Hand
