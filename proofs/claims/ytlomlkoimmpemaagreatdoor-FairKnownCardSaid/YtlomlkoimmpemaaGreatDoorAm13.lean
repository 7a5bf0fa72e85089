/- Laws by which a plain form is run; rows and cells of the symbolic heap (of no program). -/
import Derived.Test.YtlomlkoimmpemaaGreatDoorAm12
set_option linter.unusedVariables false
set_option linter.unusedSimpArgs false
namespace Go.Proofs.YtlomlkoimmpemaaGreatDoor.Am
set_option linter.unusedVariables false
set_option linter.unusedSimpArgs false
namespace K
/-! Laws by which a plain form is run: what each step does to values that are known. -/
/-- it answers, and so -/
def Yes (x : R) (Q : AV → Hp → Prop) : Prop := ∃ v H, x = some (v, H) ∧ Q v H
theorem Yes.mk {v : AV} {H : Hp} {Q : AV → Hp → Prop} (h : Q v H) : Yes (some (v, H)) Q := ⟨v, H, rfl, h⟩
theorem Yes.mono {x : R} {Q Q' : AV → Hp → Prop} (h : Yes x Q) (k : ∀ v H, Q v H → Q' v H) : Yes x Q' := by
  obtain ⟨v, H, h1, h2⟩ := h; exact ⟨v, H, h1, k v H h2⟩
theorem Yes.b1 {α : Type} {o : Option α} {f : α → R} {Q : AV → Hp → Prop} {v : α} (h : o = some v) (k : Yes (f v) Q) : Yes (B1 o f) Q := by subst h; exact k
theorem Yes.b2 {o : Option (AV × Hp)} {f : AV → Hp → R} {Q : AV → Hp → Prop} {v : AV} {H : Hp} (h : o = some (v, H)) (k : Yes (f v H) Q) : Yes (B2 o f) Q := by subst h; exact k
theorem Yes.bn {o : Option (Nat × Hp)} {f : Nat → Hp → R} {Q : AV → Hp → Prop} {v : Nat} {H : Hp} (h : o = some (v, H)) (k : Yes (f v H) Q) : Yes (BN o f) Q := by subst h; exact k
/-- a call -/
theorem Yes.call {o : R} {f : AV → Hp → R} {Q Q' : AV → Hp → Prop} (h : Yes o Q') (k : ∀ v H, Q' v H → Yes (f v H) Q) : Yes (B2 o f) Q := by
  obtain ⟨v, H, h1, h2⟩ := h; subst h1; exact k v H h2
theorem Yes.of {x y : R} {Q : AV → Hp → Prop} (h : x = y) (k : Yes y Q) : Yes x Q := h ▸ k

section
variable {α : Type}
theorem B1_s (v : α) (k : α → R) : B1 (some v) k = k v := Eq.trans rfl (id rfl)
theorem B2_s (v : AV) (H : Hp) (k : AV → Hp → R) : B2 (some (v, H)) k = k v H := Eq.trans rfl (id rfl)
theorem BN_s (v : Nat) (H : Hp) (k : Nat → Hp → R) : BN (some (v, H)) k = k v H := Eq.trans rfl (id rfl)
end
theorem JN_0 (f : (Hp → R) → R) (k : Hp → R) : JN 0 f k = f k := Eq.trans rfl (id rfl)
theorem JN_1 (f : (AV → Hp → R) → R) (k : AV → Hp → R) : JN 1 f k = f k := Eq.trans rfl (id rfl)
theorem JN_2 (f : (AV → AV → Hp → R) → R) (k : AV → AV → Hp → R) : JN 2 f k = f k := Eq.trans rfl (id rfl)
theorem JN_3 (f : (AV → AV → AV → Hp → R) → R) (k : AV → AV → AV → Hp → R) : JN 3 f k = f k := Eq.trans rfl (id rfl)
theorem JN_4 (f : (AV → AV → AV → AV → Hp → R) → R) (k : AV → AV → AV → AV → Hp → R) : JN 4 f k = f k := Eq.trans rfl (id rfl)
theorem JN_5 (f : (AV → AV → AV → AV → AV → Hp → R) → R) (k : AV → AV → AV → AV → AV → Hp → R) : JN 5 f k = f k := Eq.trans rfl (id rfl)
theorem JN_6 (f : (AV → AV → AV → AV → AV → AV → Hp → R) → R) (k : AV → AV → AV → AV → AV → AV → Hp → R) : JN 6 f k = f k := Eq.trans rfl (id rfl)
theorem JN_7 (f : (AV → AV → AV → AV → AV → AV → AV → Hp → R) → R) (k : AV → AV → AV → AV → AV → AV → AV → Hp → R) : JN 7 f k = f k := Eq.trans rfl (id rfl)
theorem JN_8 (f : (AV → AV → AV → AV → AV → AV → AV → AV → Hp → R) → R) (k : AV → AV → AV → AV → AV → AV → AV → AV → Hp → R) : JN 8 f k = f k := Eq.trans rfl (id rfl)
theorem JN_9 (f : (AV → AV → AV → AV → AV → AV → AV → AV → AV → Hp → R) → R) (k : AV → AV → AV → AV → AV → AV → AV → AV → AV → Hp → R) : JN 9 f k = f k := Eq.trans rfl (id rfl)
theorem JN_10 (f : (AV → AV → AV → AV → AV → AV → AV → AV → AV → AV → Hp → R) → R) (k : AV → AV → AV → AV → AV → AV → AV → AV → AV → AV → Hp → R) : JN 10 f k = f k := Eq.trans rfl (id rfl)
theorem JN_11 (f : (AV → AV → AV → AV → AV → AV → AV → AV → AV → AV → AV → Hp → R) → R) (k : AV → AV → AV → AV → AV → AV → AV → AV → AV → AV → AV → Hp → R) : JN 11 f k = f k := Eq.trans rfl (id rfl)
theorem JN_12 (f : (AV → AV → AV → AV → AV → AV → AV → AV → AV → AV → AV → AV → Hp → R) → R) (k : AV → AV → AV → AV → AV → AV → AV → AV → AV → AV → AV → AV → Hp → R) : JN 12 f k = f k := Eq.trans rfl (id rfl)
theorem JN_13 (f : (AV → AV → AV → AV → AV → AV → AV → AV → AV → AV → AV → AV → AV → Hp → R) → R) (k : AV → AV → AV → AV → AV → AV → AV → AV → AV → AV → AV → AV → AV → Hp → R) : JN 13 f k = f k := Eq.trans rfl (id rfl)
theorem JN_14 (f : (AV → AV → AV → AV → AV → AV → AV → AV → AV → AV → AV → AV → AV → AV → Hp → R) → R) (k : AV → AV → AV → AV → AV → AV → AV → AV → AV → AV → AV → AV → AV → AV → Hp → R) : JN 14 f k = f k := Eq.trans rfl (id rfl)
theorem JN_15 (f : (AV → AV → AV → AV → AV → AV → AV → AV → AV → AV → AV → AV → AV → AV → AV → Hp → R) → R) (k : AV → AV → AV → AV → AV → AV → AV → AV → AV → AV → AV → AV → AV → AV → AV → Hp → R) : JN 15 f k = f k := Eq.trans rfl (id rfl)
theorem JN_16 (f : (AV → AV → AV → AV → AV → AV → AV → AV → AV → AV → AV → AV → AV → AV → AV → AV → Hp → R) → R) (k : AV → AV → AV → AV → AV → AV → AV → AV → AV → AV → AV → AV → AV → AV → AV → AV → Hp → R) : JN 16 f k = f k := Eq.trans rfl (id rfl)
theorem JN_17 (f : (AV → AV → AV → AV → AV → AV → AV → AV → AV → AV → AV → AV → AV → AV → AV → AV → AV → Hp → R) → R) (k : AV → AV → AV → AV → AV → AV → AV → AV → AV → AV → AV → AV → AV → AV → AV → AV → AV → Hp → R) : JN 17 f k = f k := Eq.trans rfl (id rfl)
theorem JN_18 (f : (AV → AV → AV → AV → AV → AV → AV → AV → AV → AV → AV → AV → AV → AV → AV → AV → AV → AV → Hp → R) → R) (k : AV → AV → AV → AV → AV → AV → AV → AV → AV → AV → AV → AV → AV → AV → AV → AV → AV → AV → Hp → R) : JN 18 f k = f k := Eq.trans rfl (id rfl)
theorem JN_19 (f : (AV → AV → AV → AV → AV → AV → AV → AV → AV → AV → AV → AV → AV → AV → AV → AV → AV → AV → AV → Hp → R) → R) (k : AV → AV → AV → AV → AV → AV → AV → AV → AV → AV → AV → AV → AV → AV → AV → AV → AV → AV → AV → Hp → R) : JN 19 f k = f k := Eq.trans rfl (id rfl)
theorem JN_20 (f : (AV → AV → AV → AV → AV → AV → AV → AV → AV → AV → AV → AV → AV → AV → AV → AV → AV → AV → AV → AV → Hp → R) → R) (k : AV → AV → AV → AV → AV → AV → AV → AV → AV → AV → AV → AV → AV → AV → AV → AV → AV → AV → AV → AV → Hp → R) : JN 20 f k = f k := Eq.trans rfl (id rfl)
theorem JN_21 (f : (AV → AV → AV → AV → AV → AV → AV → AV → AV → AV → AV → AV → AV → AV → AV → AV → AV → AV → AV → AV → AV → Hp → R) → R) (k : AV → AV → AV → AV → AV → AV → AV → AV → AV → AV → AV → AV → AV → AV → AV → AV → AV → AV → AV → AV → AV → Hp → R) : JN 21 f k = f k := Eq.trans rfl (id rfl)
theorem JN_22 (f : (AV → AV → AV → AV → AV → AV → AV → AV → AV → AV → AV → AV → AV → AV → AV → AV → AV → AV → AV → AV → AV → AV → Hp → R) → R) (k : AV → AV → AV → AV → AV → AV → AV → AV → AV → AV → AV → AV → AV → AV → AV → AV → AV → AV → AV → AV → AV → AV → Hp → R) : JN 22 f k = f k := Eq.trans rfl (id rfl)
theorem JN_23 (f : (AV → AV → AV → AV → AV → AV → AV → AV → AV → AV → AV → AV → AV → AV → AV → AV → AV → AV → AV → AV → AV → AV → AV → Hp → R) → R) (k : AV → AV → AV → AV → AV → AV → AV → AV → AV → AV → AV → AV → AV → AV → AV → AV → AV → AV → AV → AV → AV → AV → AV → Hp → R) : JN 23 f k = f k := Eq.trans rfl (id rfl)
theorem JN_24 (f : (AV → AV → AV → AV → AV → AV → AV → AV → AV → AV → AV → AV → AV → AV → AV → AV → AV → AV → AV → AV → AV → AV → AV → AV → Hp → R) → R) (k : AV → AV → AV → AV → AV → AV → AV → AV → AV → AV → AV → AV → AV → AV → AV → AV → AV → AV → AV → AV → AV → AV → AV → AV → Hp → R) : JN 24 f k = f k := Eq.trans rfl (id rfl)
theorem CD_t (x y : R) : CD (.bool true) x y = x := Eq.trans rfl (id rfl)
theorem CD_f (x y : R) : CD (.bool false) x y = y := Eq.trans rfl (id rfl)
theorem CD_b (b : Bool) (x y : R) : CD (.bool b) x y = if b then x else y := by cases b <;> rfl
theorem GO_tt (f : (AV → Hp → R) → R) (k : AV → Hp → R) (H : Hp) : GO (.bool true) true f k H = f k := Eq.trans rfl (id rfl)
theorem GO_ft (f : (AV → Hp → R) → R) (k : AV → Hp → R) (H : Hp) : GO (.bool false) true f k H = k undefA H := Eq.trans rfl (id rfl)
theorem GO_tf (f : (AV → Hp → R) → R) (k : AV → Hp → R) (H : Hp) : GO (.bool true) false f k H = k undefA H := Eq.trans rfl (id rfl)
theorem GO_ff (f : (AV → Hp → R) → R) (k : AV → Hp → R) (H : Hp) : GO (.bool false) false f k H = f k := Eq.trans rfl (id rfl)
theorem GO_ut (f : (AV → Hp → R) → R) (k : AV → Hp → R) (H : Hp) : GO undefA true f k H = k undefA H := Eq.trans rfl (id rfl)
theorem GO_uf (f : (AV → Hp → R) → R) (k : AV → Hp → R) (H : Hp) : GO undefA false f k H = k undefA H := Eq.trans rfl (id rfl)
theorem GD2_tt (x y : R) : GD2 (.bool true) true x y = x := Eq.trans rfl (id rfl)
theorem GD2_ft (x y : R) : GD2 (.bool false) true x y = y := Eq.trans rfl (id rfl)
theorem GD2_tf (x y : R) : GD2 (.bool true) false x y = y := Eq.trans rfl (id rfl)
theorem GD2_ff (x y : R) : GD2 (.bool false) false x y = x := Eq.trans rfl (id rfl)
theorem pk_t (a b : AV) : pk (.bool true) a b = some a := Eq.trans rfl (id rfl)
theorem pk_f (a b : AV) : pk (.bool false) a b = some b := Eq.trans rfl (id rfl)
theorem nilA_p (i o : Nat) : nilA (.ptr i o) = some (.ptr i o) := Eq.trans rfl (id rfl)
theorem nilA_i (t : TypeId) (v : AV) : nilA (.iface t v) = some (.iface t v) := Eq.trans rfl (id rfl)
theorem fa_p (off i o : Nat) : fa off (.ptr i o) = some (.ptr i (o + off)) := Eq.trans rfl (id rfl)
theorem fd_a (off : Nat) (l : List AV) : fd off (.agg l) = l[off]? := Eq.trans rfl (id rfl)
theorem ex_t (i : Nat) (l : List AV) : ex i (.tuple l) = l[i]? := Eq.trans rfl (id rfl)
theorem iadd_i (k : IntKind) (a b : Int) : iadd (.int k a) (.int k b) = some (.int k (k.wrap (a + b))) := by simp [iadd, ii]
theorem isub_i (k : IntKind) (a b : Int) : isub (.int k a) (.int k b) = some (.int k (k.wrap (a - b))) := by simp [isub, ii]
theorem imul_i (k : IntKind) (a b : Int) : imul (.int k a) (.int k b) = some (.int k (k.wrap (a * b))) := by simp [imul, ii]
theorem ieq_i (k : IntKind) (a b : Int) : ieq (.int k a) (.int k b) = some (.bool (a == b)) := by simp [ieq, ii]
theorem ine_i (k : IntKind) (a b : Int) : ine (.int k a) (.int k b) = some (.bool (a != b)) := by simp [ine, ii]
theorem ilt_i (k : IntKind) (a b : Int) : ilt (.int k a) (.int k b) = some (.bool (a < b)) := by simp [ilt, ii]
theorem ile_i (k : IntKind) (a b : Int) : ile (.int k a) (.int k b) = some (.bool (a ≤ b)) := by simp [ile, ii]
theorem igt_i (k : IntKind) (a b : Int) : igt (.int k a) (.int k b) = some (.bool (b < a)) := by simp [igt, ii]
theorem ige_i (k : IntKind) (a b : Int) : ige (.int k a) (.int k b) = some (.bool (b ≤ a)) := by simp [ige, ii]
theorem iquo_i (k : IntKind) (a b : Int) (h : b ≠ 0) : iquo (.int k a) (.int k b) = some (.int k (k.wrap (a.tdiv b))) := by simp [iquo, ii, h]
theorem irem_i (k : IntKind) (a b : Int) (h : b ≠ 0) : irem (.int k a) (.int k b) = some (.int k (a.tmod b)) := by simp [irem, ii, h]
theorem seq_s (a b : List Nat) : seq (.str a) (.str b) = some (.bool (a == b)) := Eq.trans rfl (id rfl)
theorem sne_s (a b : List Nat) : sne (.str a) (.str b) = some (.bool (!(a == b))) := Eq.trans rfl (id rfl)
theorem slt_s (a b : List Nat) : slt (.str a) (.str b) = some (.bool (ltL a b)) := Eq.trans rfl (id rfl)
theorem scat_s {a b : List Nat} (h : a.length + b.length ≤ 4294967296) : scat (.str a) (.str b) = some (.str (a ++ b)) := by
  have : Nat.ble (a.length + b.length) 4294967296 = true := Nat.ble_eq.mpr h
  simp [scat, ss, this]
theorem lens_s (s : List Nat) : lens (.str s) = some (.int .i64 s.length) := Eq.trans rfl (id rfl)
theorem lenx_0 : lenx .slice0 = some (.int .i64 0) := Eq.trans rfl (id rfl)
theorem lenx_s (i o n c : Nat) (x : Bool) (es : Nat) : lenx (.slice i o n c x es) = some (.int .i64 n) := Eq.trans rfl (id rfl)
theorem bb_e (a b : Bool) : bb .eql (.bool a) (.bool b) = some (.bool (a == b)) := Eq.trans rfl (id rfl)
theorem bb_n (a b : Bool) : bb .neq (.bool a) (.bool b) = some (.bool (!(a == b))) := Eq.trans rfl (id rfl)
theorem not_b (b : Bool) : unA .not (.bool b) = some (.bool !b) := Eq.trans rfl (id rfl)
theorem cv_i (k j : IntKind) (n : Int) : cv k (.int j n) = some (.int k (k.wrap n)) := Eq.trans rfl (id rfl)
theorem pe_00 (H : Hp) : pe .ptr0 .ptr0 H = some true := Eq.trans rfl (id rfl)
theorem pe_0p (i o : Nat) (H : Hp) : pe .ptr0 (.ptr i o) H = some false := Eq.trans rfl (id rfl)
theorem pe_p0 (i o : Nat) (H : Hp) : pe (.ptr i o) .ptr0 H = some false := Eq.trans rfl (id rfl)
theorem eqB_e (b : Bool) : eqB .eql (some b) = some (.bool b) := Eq.trans rfl (id rfl)
theorem eqB_n (b : Bool) : eqB .neq (some b) = some (.bool !b) := Eq.trans rfl (id rfl)
theorem SM_t {a b : AV} {x : R} (h : same a b = true) : SM a b x = x := by simp [SM, h]
theorem wrap_i64 {a : Int} (h : -9223372036854775808 ≤ a) (k : a ≤ 9223372036854775807) : IntKind.wrap .i64 a = a := by
  simp only [IntKind.wrap, IntKind.bits, IntKind.signed]
  simp
  omega

theorem ck_prim {P : Program} {ext : Nat → Option Ext} {prim : Nat → Option Prim} {an : Nat → An} {fid : Nat} {p : Prim} {args : List AV} {H : Hp} {r : AV × Hp} (hp : prim fid = some p) (h : p args H = some r) :
    CK P (regK P) ext prim an (.func (.func fid) [] []) args H = some r := by
  refine CK_fix regK_cont ?_
  unfold callK
  simp only [hp, List.nil_append, List.append_nil]
  exact h
theorem wrap_nat {k : IntKind} {n : Int} (h : k = .u8) (h0 : 0 ≤ n) (h1 : n < 256) : k.wrap n = n := by
  subst h
  simp only [IntKind.wrap, IntKind.bits, IntKind.signed]
  simp
  omega

/-! the heap -/
/-- object i is a row of cells l -/
def Cs (H : Hp) (i : Nat) (l : List AV) (el fl : Nat) : Prop := i < H.next ∧ ∃ c, H.h.get i = some (.cells c 0 l.length el fl) ∧ ∀ k v, l[k]? = some v → c.get k = some v
def Mp (H : Hp) (i : Nat) (es : List ME) (c : Nat) : Prop := i < H.next ∧ H.h.get i = some (.map es c)
/-- nothing is touched but S, and what is new -/
def Out (S : List Nat) (H H' : Hp) : Prop := H.next ≤ H'.next ∧ ∀ j, j < H.next → j ∉ S → H'.h.get j = H.h.get j
theorem Out.refl (S : List Nat) (H : Hp) : Out S H H := ⟨Nat.le_refl _, fun _ _ _ => rfl⟩
theorem Out.trans {S : List Nat} {H H' H'' : Hp} (h : Out S H H') (k : Out S H' H'') : Out S H H'' :=
  ⟨Nat.le_trans h.1 k.1, fun j hj hs => (k.2 j (Nat.lt_of_lt_of_le hj h.1) hs).trans (h.2 j hj hs)⟩
theorem Out.mono {S S' : List Nat} {H H' : Hp} (h : Out S H H') (k : ∀ j ∈ S, j ∈ S') : Out S' H H' := ⟨h.1, fun j hj hs => h.2 j hj fun q => hs (k j q)⟩
/-- what is touched anew was touched, or is new -/
theorem Out.then {S S' : List Nat} {H H' H'' : Hp} (h : Out S H H') (k : Out S' H' H'') (hs : ∀ j ∈ S', j ∈ S ∨ H.next ≤ j) : Out S H H'' :=
  ⟨Nat.le_trans h.1 k.1, fun j hj hn => (k.2 j (Nat.lt_of_lt_of_le hj h.1) fun q => (hs j q).elim hn (by omega)).trans (h.2 j hj hn)⟩
theorem Cs.out {H H' : Hp} {i : Nat} {l : List AV} {el fl : Nat} {S : List Nat} (h : Cs H i l el fl) (k : Out S H H') (hi : i ∉ S) : Cs H' i l el fl :=
  ⟨Nat.lt_of_lt_of_le h.1 k.1, by rw [k.2 i h.1 hi]; exact h.2⟩
theorem Mp.out {H H' : Hp} {i : Nat} {es : List ME} {c : Nat} {S : List Nat} (h : Mp H i es c) (k : Out S H H') (hi : i ∉ S) : Mp H' i es c :=
  ⟨Nat.lt_of_lt_of_le h.1 k.1, by rw [k.2 i h.1 hi]; exact h.2⟩
theorem Cs.cellAt {H : Hp} {i : Nat} {l : List AV} {el fl : Nat} (h : Cs H i l el fl) {o : Nat} {v : AV} (hv : l[o]? = some v) : cellAt H i o = some v := by
  obtain ⟨_, c, hc, hg⟩ := h
  have ho : o < l.length := (List.getElem?_eq_some_iff.1 hv).1
  unfold Am.cellAt
  rw [hc]
  have hb : (Nat.ble 0 o && Nat.blt o l.length) = true := by
    rw [Bool.and_eq_true, Nat.ble_eq, Nat.blt_eq]; omega
  simp only [hb, cond_true]
  exact hg o v hv
theorem Cs.ld {H : Hp} {i : Nat} {l : List AV} {el fl : Nat} (h : Cs H i l el fl) {o : Nat} {v : AV} (hv : l[o]? = some v) : ld (.ptr i o) H = some v := h.cellAt hv
theorem Cs.cellsAt {H : Hp} {i : Nat} {l : List AV} {el fl : Nat} (h : Cs H i l el fl) : ∀ (n o : Nat), o + n ≤ l.length → cellsAt H i o n = some ((l.drop o).take n)
  | 0, o, _ => by simp [Am.cellsAt]
  | n + 1, o, hn => by
    have ho : o < l.length := by omega
    have h1 := h.cellAt (o := o) (v := l[o]) (List.getElem?_eq_getElem ho)
    have h2 := h.cellsAt n (o + 1) (by omega)
    unfold Am.cellsAt
    rw [h1, h2, List.drop_eq_getElem_cons ho]
    rfl
theorem Cs.lda {H : Hp} {i : Nat} {l : List AV} {el fl : Nat} (h : Cs H i l el fl) {n o : Nat} (hn : o + n ≤ l.length) : lda n (.ptr i o) H = some (.agg ((l.drop o).take n)) := by
  show (Am.cellsAt H i o n).map AV.agg = _
  rw [h.cellsAt n o hn]; rfl
theorem get_setObj (H : Hp) (i j : Nat) (o : AO) : (setObj H i o).h.get j = if j = i then some o else H.h.get j := Tr.get_putP _ _ _ _
theorem setCell_ok {H : Hp} {i : Nat} {l : List AV} {el fl : Nat} (h : Cs H i l el fl) (hf : fl ≤ 1) {o : Nat} (ho : o < l.length) {v : AV} (hv : oneC v = true) :
    ∃ H', setCell H i o v = some H' ∧ Cs H' i (l.set o v) el fl ∧ Out [i] H H' ∧ H'.next = H.next := by
  obtain ⟨hi, c, hc, hg⟩ := h
  have hs : (c.get o).isSome = true := by rw [hg o l[o] (List.getElem?_eq_getElem ho)]; rfl
  have hb : (Nat.ble 0 o && Nat.blt o l.length && Nat.ble fl 1 && (c.get o).isSome && oneC v) = true := by
    simp only [Bool.and_eq_true, Nat.ble_eq, Nat.blt_eq]; exact ⟨⟨⟨⟨by omega, ho⟩, hf⟩, hs⟩, hv⟩
  refine ⟨{ H with h := H.h.upd i (.cells (c.upd o v) 0 l.length el fl) }, ?_, ⟨hi, c.upd o v, ?_, ?_⟩, ⟨Nat.le_refl _, ?_⟩, rfl⟩
  · unfold setCell
    rw [hc]
    simp only [hb, cond_true]
  · show (Tr.upd H.h i _).get i = _
    rw [Tr.upd, Tr.get_putP, if_pos rfl, List.length_set]
  · intro k u hk
    rw [Tr.upd, Tr.get_putP]
    by_cases hko : k = o
    · subst hko
      rw [List.getElem?_set_self (by omega)] at hk
      rw [if_pos rfl]
      exact hk
    · rw [List.getElem?_set_ne (fun q => hko q.symm)] at hk
      rw [if_neg hko]
      exact hg k u hk
  · intro j hj hn
    show (Tr.upd H.h i _).get j = _
    rw [Tr.upd, Tr.get_putP, if_neg (by simpa using hn)]
theorem st1 {H : Hp} {i : Nat} {l : List AV} {el fl : Nat} (h : Cs H i l el fl) (hf : fl ≤ 1) {o : Nat} (ho : o < l.length) {v : AV} (hv : oneC v = true) :
    ∃ H', st 1 (.ptr i o) v H = some H' ∧ Cs H' i (l.set o v) el fl ∧ Out [i] H H' ∧ H'.next = H.next := by
  obtain ⟨H', h1, h2, h3, h4⟩ := setCell_ok h hf ho hv
  refine ⟨H', ?_, h2, h3, h4⟩
  have hc : cellsV v = some [v] := by cases v <;> first | rfl | cases hv
  unfold st
  simp only [hc]
  show setCells H i o [v] = _
  simp only [setCells, h1, Option.bind_eq_bind, Option.bind_some]
theorem newCells_ok (H : Hp) (l : List AV) (el fl : Nat) (hl : l.length ≤ 16777216) : ∃ H', newCells H l el fl = some (H.next, H') ∧ Cs H' H.next l el fl ∧ Out [] H H' ∧ H'.next = H.next + 1 := by
  refine ⟨⟨H.h.put 34 H.next (.cells (Tr.puts .nil 0 l) 0 l.length el fl), H.next + 1⟩, ?_, ⟨Nat.lt_succ_self _, Tr.puts .nil 0 l, ?_, ?_⟩, ⟨Nat.le_succ _, ?_⟩, rfl⟩
  · unfold newCells alloc
    have : Nat.ble l.length 16777216 = true := Nat.ble_eq.mpr hl
    rw [this]; rfl
  · show (Tr.put 34 H.h H.next _).get H.next = _
    rw [Tr.put, Tr.get_putP, if_pos rfl]
  · intro k v hk
    rw [get_puts_k]
    have := (List.getElem?_eq_some_iff.1 hk).1
    rw [if_pos (by omega)]; exact hk
  · intro j hj _
    show (Tr.put 34 H.h H.next _).get j = _
    rw [Tr.put, Tr.get_putP, if_neg (by omega)]
theorem bx_ok (H : Hp) (el : Nat) (x : AV) (l : List AV) (hx : cellsV x = some l) (hl : l.length ≤ 16777216) : ∃ H', bx el x H = some (H.next, H') ∧ Cs H' H.next l el 0 ∧ Out [] H H' ∧ H'.next = H.next + 1 := by
  obtain ⟨H', h1, h2⟩ := newCells_ok H l el 0 hl
  exact ⟨H', by unfold bx; rw [hx]; exact h1, h2⟩
theorem mk0_ok (H : Hp) : ∃ H', mk0 H = some (H.next, H') ∧ Mp H' H.next [] 0 ∧ Out [] H H' ∧ H'.next = H.next + 1 := by
  refine ⟨⟨H.h.put 34 H.next (.map [] 0), H.next + 1⟩, rfl, ⟨Nat.lt_succ_self _, ?_⟩, ⟨Nat.le_succ _, ?_⟩, rfl⟩
  · show (Tr.put 34 H.h H.next _).get H.next = _
    rw [Tr.put, Tr.get_putP, if_pos rfl]
  · intro j hj _
    show (Tr.put 34 H.h H.next _).get j = _
    rw [Tr.put, Tr.get_putP, if_neg (by omega)]

/-! rows -/
/-- cells of an object, from a place on -/
def Ro (H : Hp) (i off : Nat) (l : List AV) : Prop := i < H.next ∧ ∃ c lo hi el fl, H.h.get i = some (.cells c lo hi el fl) ∧ lo ≤ off ∧ off + l.length ≤ hi ∧ ∀ k v, l[k]? = some v → c.get (off + k) = some v
theorem Cs.ro {H : Hp} {i : Nat} {l : List AV} {el fl : Nat} (h : Cs H i l el fl) : Ro H i 0 l := by
  obtain ⟨hi, c, hc, hg⟩ := h
  exact ⟨hi, c, 0, l.length, el, fl, hc, Nat.le_refl _, by omega, fun k v hk => by rw [Nat.zero_add]; exact hg k v hk⟩
theorem Ro.out {H H' : Hp} {i off : Nat} {l : List AV} {S : List Nat} (h : Ro H i off l) (k : Out S H H') (hi : i ∉ S) : Ro H' i off l :=
  ⟨Nat.lt_of_lt_of_le h.1 k.1, by rw [k.2 i h.1 hi]; exact h.2⟩
theorem Ro.cellAt {H : Hp} {i off : Nat} {l : List AV} (h : Ro H i off l) {k : Nat} {v : AV} (hv : l[k]? = some v) : cellAt H i (off + k) = some v := by
  obtain ⟨_, c, lo, hi, el, fl, hc, h1, h2, hg⟩ := h
  have hk : k < l.length := (List.getElem?_eq_some_iff.1 hv).1
  unfold Am.cellAt
  rw [hc]
  have hb : (Nat.ble lo (off + k) && Nat.blt (off + k) hi) = true := by
    rw [Bool.and_eq_true, Nat.ble_eq, Nat.blt_eq]; omega
  simp only [hb, cond_true]
  exact hg k v hv
theorem Ro.ld {H : Hp} {i off : Nat} {l : List AV} (h : Ro H i off l) {k : Nat} {v : AV} (hv : l[k]? = some v) : ld (.ptr i (off + k)) H = some v := h.cellAt hv
theorem Ro.drop {H : Hp} {i off : Nat} {l : List AV} (h : Ro H i off l) (n : Nat) (hn : n ≤ l.length) : Ro H i (off + n) (l.drop n) := by
  obtain ⟨hi, c, lo, hi', el, fl, hc, h1, h2, hg⟩ := h
  refine ⟨hi, c, lo, hi', el, fl, hc, by omega, by rw [List.length_drop]; omega, fun k v hk => ?_⟩
  rw [List.getElem?_drop] at hk
  rw [Nat.add_assoc]; exact hg _ v hk
theorem Ro.take {H : Hp} {i off : Nat} {l : List AV} (h : Ro H i off l) (n : Nat) : Ro H i off (l.take n) := by
  obtain ⟨hi, c, lo, hi', el, fl, hc, h1, h2, hg⟩ := h
  refine ⟨hi, c, lo, hi', el, fl, hc, h1, by rw [List.length_take]; omega, fun k v hk => ?_⟩
  rw [List.getElem?_take] at hk
  split at hk
  · exact hg _ v hk
  · cases hk
theorem Ro.cellsAt {H : Hp} {i : Nat} : ∀ {l : List AV} {off : Nat}, Ro H i off l → Am.cellsAt H i off l.length = some l
  | [], off, _ => rfl
  | v :: l, off, h => by
    have h1 := h.cellAt (k := 0) (v := v) rfl
    have h2 := (h.drop 1 (by simp)).cellsAt
    simp only [List.drop_succ_cons, List.drop_zero] at h2
    rw [Nat.add_zero] at h1
    rw [List.length_cons]
    unfold Am.cellsAt
    rw [h1, h2]
    rfl
/-- a value's object -/
def rid : AV → List Nat
  | .slice i _ _ cap ex _ => bif ex && Nat.beq cap 0 then [] else [i]
  | .ptr i _ => [i]
  | .map i => [i]
  | _ => []
theorem rid_s {i o n cap es : Nat} {ex : Bool} (h : (ex && Nat.beq cap 0) = false) : rid (.slice i o n cap ex es) = [i] := by simp only [rid, h, cond_false]
/-- a value is the row l, of cells -/
inductive Rw (H : Hp) (es : Nat) : AV → List AV → Prop
  | nil : Rw H es .slice0 []
  | emp {i off : Nat} : Rw H es (.slice i off 0 0 true es) []
  | mk {i off n cap : Nat} {ex : Bool} {l : List AV} (h : Ro H i off l) (hn : l.length = n * es) (hc : n ≤ cap) (he : (ex && Nat.beq cap 0) = false) : Rw H es (.slice i off n cap ex es) l
theorem Rw.out {H H' : Hp} {es : Nat} {x : AV} {l : List AV} {S : List Nat} (h : Rw H es x l) (k : Out S H H') (hi : ∀ j ∈ rid x, j ∉ S) : Rw H' es x l := by
  cases h with
  | nil => exact .nil
  | emp => exact .emp
  | mk h hn hc he => exact .mk (h.out k (hi _ (by rw [rid_s he]; exact .head _))) hn hc he
theorem Rw.lt {H : Hp} {es : Nat} {x : AV} {l : List AV} (h : Rw H es x l) : ∀ j ∈ rid x, j < H.next := by
  cases h with
  | nil => intro j hj; cases hj
  | emp => intro j hj; cases hj
  | mk h hn hc he => intro j hj; rw [rid_s he, List.mem_singleton] at hj; subst hj; exact h.1
theorem Rw.len {H : Hp} {es : Nat} {x : AV} {l : List AV} (h : Rw H es x l) : ∃ n : Nat, lenx x = some (.int .i64 n) ∧ l.length = n * es := by
  cases h with
  | nil => exact ⟨0, rfl, by simp⟩
  | emp => exact ⟨0, rfl, by simp⟩
  | mk h hn hc he => exact ⟨_, rfl, hn⟩
theorem Rw.len1 {H : Hp} {x : AV} {l : List AV} (h : Rw H 1 x l) : lenx x = some (.int .i64 l.length) := by
  obtain ⟨n, h1, h2⟩ := h.len
  rw [h1, h2, Nat.mul_one]

/-- a row that is ours: it may grow, and be written -/
inductive Ow (H : Hp) (el es : Nat) : AV → List AV → Prop
  | nil : Ow H el es .slice0 []
  | emp {i off : Nat} : Ow H el es (.slice i off 0 0 true es) []
  | mk {i off n cap : Nat} {ex : Bool} {l : List AV} {c : Tr AV} {lo hi fl : Nat} (hi' : i < H.next) (hg : H.h.get i = some (.cells c lo hi el fl)) (hf : fl ≤ 1) (hlo : lo ≤ off) (hhi : off + cap * es ≤ hi) (hcap : n ≤ cap) (hn : l.length = n * es)
      (hc : ∀ k v, l[k]? = some v → c.get (off + k) = some v) (hs : ∀ k, k < cap * es → (c.get (off + k)).isSome = true) (h1 : ∀ v ∈ l, oneC v = true) (he : (ex && Nat.beq cap 0) = false) : Ow H el es (.slice i off n cap ex es) l
theorem Ow.rw {H : Hp} {el es : Nat} {x : AV} {l : List AV} (h : Ow H el es x l) : Rw H es x l := by
  cases h with
  | nil => exact .nil
  | emp => exact .emp
  | @mk i off n cap ex l c lo hi fl hi' hg hf hlo hhi hcap hn hc hs h1 he =>
    exact .mk ⟨hi', c, lo, hi, el, fl, hg, hlo, by rw [hn]; exact Nat.le_trans (Nat.add_le_add_left (Nat.mul_le_mul_right _ hcap) _) hhi, hc⟩ hn hcap he
theorem Ow.out {H H' : Hp} {el es : Nat} {x : AV} {l : List AV} {S : List Nat} (h : Ow H el es x l) (k : Out S H H') (hi : ∀ j ∈ rid x, j ∉ S) : Ow H' el es x l := by
  cases h with
  | nil => exact .nil
  | emp => exact .emp
  | mk hi' hg hf hlo hhi hcap hn hc hs h1 he => exact .mk (Nat.lt_of_lt_of_le hi' k.1) (by rw [k.2 _ hi' (hi _ (by rw [rid_s he]; exact .head _))]; exact hg) hf hlo hhi hcap hn hc hs h1 he
theorem Ow.one {H : Hp} {el es : Nat} {x : AV} {l : List AV} (h : Ow H el es x l) : ∀ v ∈ l, oneC v = true := by
  cases h with
  | nil => intro v hv; cases hv
  | emp => intro v hv; cases hv
  | mk _ _ _ _ _ _ _ _ _ h1 _ => exact h1
/-- a new row is ours -/
theorem Cs.ow {H : Hp} {i n : Nat} {l : List AV} {el es fl : Nat} (h : Cs H i l el fl) (hf : fl ≤ 1) (hn : l.length = n * es) (h1 : ∀ v ∈ l, oneC v = true) (ex : Bool) : Ow H el es (.slice i 0 n n ex es) l := by
  cases hex : (ex && Nat.beq n 0) with
  | true =>
    rw [Bool.and_eq_true] at hex
    obtain ⟨rfl, hn0⟩ := hex
    obtain rfl := Nat.eq_of_beq_eq_true hn0
    have : l = [] := by simpa using hn
    subst this
    exact .emp
  | false =>
  obtain ⟨hi, c, hc, hg⟩ := h
  refine .mk hi hc hf (Nat.le_refl _) (by omega) (Nat.le_refl _) hn (fun k v hk => by rw [Nat.zero_add]; exact hg k v hk) (fun k hk => ?_) h1 hex
  rw [Nat.zero_add, hg k l[k] (List.getElem?_eq_getElem (by omega))]; rfl
theorem setCells_get : ∀ (l : List AV) (H : Hp) (i off : Nat) (c : Tr AV) (lo hi el fl : Nat), H.h.get i = some (.cells c lo hi el fl) → fl ≤ 1 → lo ≤ off → off + l.length ≤ hi → (∀ k, k < l.length → (c.get (off + k)).isSome = true) → (∀ v ∈ l, oneC v = true) →
    ∃ H' c', setCells H i off l = some H' ∧ H'.next = H.next ∧ H'.h.get i = some (.cells c' lo hi el fl) ∧ (∀ j, j ≠ i → H'.h.get j = H.h.get j) ∧ ∀ k, c'.get k = if off ≤ k ∧ k < off + l.length then l[k - off]? else c.get k
  | [], H, i, off, c, lo, hi, el, fl, hg, hf, h1, h2, hs, ho => ⟨H, c, rfl, rfl, hg, fun _ _ => rfl, fun k => by rw [if_neg (by simp only [List.length_nil]; omega)]⟩
  | v :: l, H, i, off, c, lo, hi, el, fl, hg, hf, h1, h2, hs, ho => by
    simp only [List.length_cons] at h2
    have hs0 := hs 0 (by simp)
    rw [Nat.add_zero] at hs0
    have hb : (Nat.ble lo off && Nat.blt off hi && Nat.ble fl 1 && (c.get off).isSome && oneC v) = true := by
      simp only [Bool.and_eq_true, Nat.ble_eq, Nat.blt_eq]; exact ⟨⟨⟨⟨h1, by omega⟩, hf⟩, hs0⟩, ho v (.head _)⟩
    have hset : setCell H i off v = some { H with h := H.h.upd i (.cells (c.upd off v) lo hi el fl) } := by
      unfold setCell; rw [hg]; simp only [hb, cond_true]
    obtain ⟨H', c', q1, q2, q3, q4, q5⟩ := setCells_get l { H with h := H.h.upd i (.cells (c.upd off v) lo hi el fl) } i (off + 1) (c.upd off v) lo hi el fl (by
        show (Tr.upd H.h i _).get i = _
        rw [Tr.upd, Tr.get_putP, if_pos rfl]) hf (by omega) (by omega) (fun k hk => by
        rw [Tr.upd, Tr.get_putP]
        split
        · rfl
        · have := hs (k + 1) (by simp; omega)
          rw [show off + 1 + k = off + (k + 1) by omega]; exact this) (fun u hu => ho u (.tail _ hu))
    refine ⟨H', c', ?_, q2, q3, fun j hj => ?_, fun k => ?_⟩
    · simp only [setCells, hset, Option.bind_eq_bind, Option.bind_some]; exact q1
    · rw [q4 j hj]
      show (Tr.upd H.h i _).get j = _
      rw [Tr.upd, Tr.get_putP, if_neg hj]
    · rw [q5 k, Tr.upd, Tr.get_putP]
      by_cases hk : k = off
      · subst hk
        rw [if_neg (by omega), if_pos rfl, if_pos (by simp), Nat.sub_self]; rfl
      · rw [if_neg hk]
        by_cases hk2 : off + 1 ≤ k ∧ k < off + 1 + l.length
        · rw [if_pos hk2, if_pos (by simp; omega), show k - off = (k - (off + 1)) + 1 by omega, List.getElem?_cons_succ]
        · rw [if_neg hk2, if_neg (by simp; omega)]
/-- append to a row of ours -/
theorem ap2_ok {H : Hp} {el es n : Nat} {s : AV} {l new : List AV} (h : Ow H el es s l) (hnew : new.length = n * es) (ho : ∀ v ∈ new, oneC v = true) (hes : 0 < es) (hlen : l.length + new.length ≤ 16777216) :
    ∃ s' H', ap2 el es n new s H = some (s', H') ∧ Ow H' el es s' (l ++ new) ∧ Out (rid s) H H' ∧ (∀ j ∈ rid s', j ∈ rid s ∨ H.next ≤ j) := by
  have hall : ∀ v ∈ l ++ new, oneC v = true := fun v hv => (List.mem_append.1 hv).elim (h.one v) (ho v)
  have hnewc : ∀ s0 : List Nat, n ≠ 0 → l = [] → ∃ H', newCells H new el 0 = some (H.next, H') ∧ Ow H' el es (.slice H.next 0 n n false es) (l ++ new) ∧ Out s0 H H' ∧ (∀ j ∈ rid (.slice H.next 0 n n false es), j ∈ s0 ∨ H.next ≤ j) := by
    intro s0 hn hl
    subst hl
    obtain ⟨H', h1, h2, h3, h4⟩ := newCells_ok H new el 0 (by simp only [List.length_nil] at hlen; omega)
    refine ⟨H', h1, h2.ow (by omega) hnew ho false, h3.mono (fun j hj => by cases hj), fun j hj => ?_⟩
    simp only [rid, Bool.false_and, cond_false, List.mem_singleton] at hj
    exact .inr (by omega)
  cases h with
  | nil =>
    unfold ap2
    simp only
    by_cases hn : n = 0
    · subst hn
      have : new = [] := by simpa using hnew
      subst this
      exact ⟨.slice0, H, rfl, .nil, Out.refl _ _, fun j hj => by cases hj⟩
    · rw [beq_f hn, cond_false]
      have hle : n ≤ 16777216 := by
        have := Nat.le_mul_of_pos_right n hes
        simp only [List.length_nil] at hlen
        omega
      have hb : Nat.ble n 16777216 = true := Nat.ble_eq.mpr hle
      rw [hb, cond_true]
      obtain ⟨H', h1, h2⟩ := hnewc [] hn rfl
      exact ⟨_, H', by rw [h1]; rfl, h2⟩
  | @emp i off =>
    unfold ap2
    have hle : n ≤ 16777216 := by
      have := Nat.le_mul_of_pos_right n hes
      simp only [List.length_nil] at hlen
      omega
    have hb : (Nat.ble (0 + n) 16777216 && Nat.beq es es && new.all oneC) = true := by
      simp only [Bool.and_eq_true, Nat.ble_eq, beq_t, List.all_eq_true]
      exact ⟨⟨by omega, trivial⟩, ho⟩
    simp only [hb, cond_true]
    by_cases hn : n = 0
    · subst hn
      have : new = [] := by simpa using hnew
      subst this
      exact ⟨.slice i off 0 0 true es, H, rfl, .emp, Out.refl _ _, fun j hj => by cases hj⟩
    · have hb2 : Nat.ble (0 + n) 0 = false := by rw [← Bool.not_eq_true, Nat.ble_eq]; omega
      rw [hb2, cond_false]
      obtain ⟨H', h1, h2⟩ := hnewc (rid (.slice i off 0 0 true es)) hn rfl
      refine ⟨.slice H.next 0 n n false es, H', ?_, h2⟩
      simp only [Nat.zero_mul, Am.cellsAt, Option.bind_some, List.nil_append, h1, Option.map_some, Nat.zero_add]
  | @mk i off m cap ex l c lo hi fl hi' hg hf hlo hhi hcap hn hc hs h1 he =>
    unfold ap2
    have hnn : n ≤ new.length := by rw [hnew]; exact Nat.le_mul_of_pos_right n hes
    have hmm : m ≤ l.length := by rw [hn]; exact Nat.le_mul_of_pos_right m hes
    have hb : (Nat.ble (m + n) 16777216 && Nat.beq es es && new.all oneC) = true := by
      simp only [Bool.and_eq_true, Nat.ble_eq, beq_t, List.all_eq_true]
      exact ⟨⟨by omega, trivial⟩, ho⟩
    simp only [hb, cond_true]
    have hll : (l ++ new).length = (m + n) * es := by rw [List.length_append, hn, hnew, Nat.add_mul]
    by_cases hroom : m + n ≤ cap
    · have hb2 : Nat.ble (m + n) cap = true := Nat.ble_eq.mpr hroom
      rw [hb2, cond_true]
      have hr : (m + n) * es ≤ cap * es := Nat.mul_le_mul_right _ hroom
      rw [Nat.add_mul] at hr
      obtain ⟨H', c', q1, q2, q3, q4, q5⟩ := setCells_get new H i (off + m * es) c lo hi el fl hg hf (by omega) (by rw [hnew]; omega) (fun k hk => by
        rw [Nat.add_assoc]; exact hs _ (by rw [hnew] at hk; omega)) ho
      refine ⟨_, H', by rw [q1]; rfl, .mk (by rw [q2]; exact hi') q3 hf hlo hhi hroom hll (fun k v hk => ?_) (fun k hk => ?_) hall he, ⟨by rw [q2]; exact Nat.le_refl _, fun j hj hjn => q4 j (by rw [rid_s he] at hjn; simpa using hjn)⟩, fun j hj => .inl (by rw [rid_s he] at hj ⊢; exact hj)⟩
      · rw [q5]
        by_cases hkl : k < l.length
        · rw [if_neg (by omega), hc k v (by rw [List.getElem?_append_left hkl] at hk; exact hk)]
        · rw [List.getElem?_append_right (by omega)] at hk
          have := (List.getElem?_eq_some_iff.1 hk).1
          rw [if_pos (by omega), ← hk]; congr 1; omega
      · rw [q5]
        split
        · rename_i hq
          rw [List.getElem?_eq_getElem (by omega)]; rfl
        · exact hs k hk
    · have hb2 : Nat.ble (m + n) cap = false := by rw [← Bool.not_eq_true, Nat.ble_eq]; omega
      rw [hb2, cond_false]
      cases ex with
      | true =>
        simp only [cond_true]
        have hro : Ro H i off l := ⟨hi', c, lo, hi, el, fl, hg, hlo, by rw [hn]; exact Nat.le_trans (Nat.add_le_add_left (Nat.mul_le_mul_right _ hcap) _) hhi, hc⟩
        have hca := hro.cellsAt
        rw [hn] at hca
        rw [hca]
        obtain ⟨H', r1, r2, r3, r4⟩ := newCells_ok H (l ++ new) el 0 (by rw [List.length_append]; omega)
        refine ⟨_, H', by simp only [Option.bind_some]; rw [r1]; rfl, r2.ow (by omega) hll hall false, r3.mono (fun j hj => by cases hj), fun j hj => ?_⟩
        simp only [rid, Bool.false_and, cond_false, List.mem_singleton] at hj
        exact .inr (by omega)
      | false =>
        simp only [cond_false, hg]
        have hr : m * es ≤ cap * es := Nat.mul_le_mul_right _ hcap
        have hb3 : (Nat.ble fl 1 && Nat.ble lo off && Nat.ble (off + m * es) hi && Nat.beq el el) = true := by
          simp only [Bool.and_eq_true, Nat.ble_eq, beq_t]
          exact ⟨⟨⟨hf, hlo⟩, by omega⟩, trivial⟩
        rw [hb3, cond_true]
        refine ⟨_, _, rfl, .mk (c := c.puts (off + m * es) new) (lo := off) (hi := off + (m + n) * es) (fl := 1) ?_ ?_ (by omega) (Nat.le_refl _) (Nat.le_refl _) (Nat.le_refl _) hll (fun k v hk => ?_) (fun k hk => ?_) hall rfl, ⟨?_, fun j hj hjn => ?_⟩, fun j hj => ?_⟩
        · exact Nat.lt_succ_self _
        · show (Tr.put 34 (H.h.del i) H.next _).get H.next = _
          rw [Tr.put, Tr.get_putP, if_pos rfl]
        · rw [Tr.get_putsA]
          by_cases hkl : k < l.length
          · rw [if_neg (by omega), hc k v (by rw [List.getElem?_append_left hkl] at hk; exact hk)]
          · rw [List.getElem?_append_right (by omega)] at hk
            have := (List.getElem?_eq_some_iff.1 hk).1
            rw [if_pos (by omega), ← hk]; congr 1; omega
        · rw [Tr.get_putsA]
          rw [Nat.add_mul] at hk
          split
          · rename_i hq
            rw [List.getElem?_eq_getElem (by omega)]; rfl
          · exact hs k (by omega)
        · exact Nat.le_succ _
        · show (Tr.put 34 (H.h.del i) H.next _).get j = _
          rw [Tr.put, Tr.get_putP, if_neg (by omega), Tr.get_del, if_neg (by rw [rid_s he] at hjn; simpa using hjn)]
        · simp only [rid, Bool.false_and, cond_false, List.mem_singleton] at hj
          subst hj
          exact .inr (Nat.le_refl _)
theorem append_ok {H : Hp} {el es : Nat} {z : List AV} {s x : AV} {l new : List AV} (h : Ow H el es s l) (hx : Rw H es x new) (ho : ∀ v ∈ new, oneC v = true) (hes : 0 < es) (hlen : l.length + new.length ≤ 16777216) :
    ∃ s' H', app' el es z false s x H = some (s', H') ∧ Ow H' el es s' (l ++ new) ∧ Out (rid s) H H' ∧ (∀ j ∈ rid s', j ∈ rid s ∨ H.next ≤ j) := by
  cases hx with
  | nil =>
    obtain ⟨s', H', h1, h2⟩ := ap2_ok (n := 0) (new := []) h (by simp) ho hes hlen
    exact ⟨s', H', h1, h2⟩
  | @emp i off =>
    obtain ⟨s', H', h1, h2⟩ := ap2_ok (n := 0) (new := []) h (by simp) ho hes hlen
    refine ⟨s', H', ?_, h2⟩
    have : apn es z false (.slice i off 0 0 true es) H = some (0, []) := by
      show (Am.cellsAt H i off (0 * es)).map (fun l => (0, l)) = _
      rw [Nat.zero_mul]; rfl
    unfold app'
    rw [this]
    exact h1
  | @mk i off n cap ex l' hr hn hc he =>
    obtain ⟨s', H', h1, h2⟩ := ap2_ok h hn ho hes hlen
    refine ⟨s', H', ?_, h2⟩
    have : apn es z false (.slice i off n cap ex es) H = some (n, new) := by
      show (Am.cellsAt H i off (n * es)).map (fun l => (n, l)) = _
      rw [← hn, hr.cellsAt]; rfl
    unfold app'
    rw [this]
    exact h1
/-- bytes as cells -/
def bs (l : List Nat) : List AV := l.map fun (b : Nat) => AV.int .u8 b
theorem bs_one (l : List Nat) : ∀ v ∈ bs l, oneC v = true := by
  intro v hv
  obtain ⟨b, _, rfl⟩ := List.mem_map.1 hv
  rfl
theorem bs_len (l : List Nat) : (bs l).length = l.length := by simp [bs]
theorem bs_app (a b : List Nat) : bs (a ++ b) = bs a ++ bs b := by simp [bs]
theorem toBytes_bs : ∀ (l : List Nat), (∀ b ∈ l, b < 256) → toBytes (bs l) = some l
  | [], _ => rfl
  | b :: l, h => by
    have h1 := toBytes_bs l (fun x hx => h x (.tail _ hx))
    have h2 := h b (.head _)
    have h3 : (decide (0 ≤ (b : Int)) && decide ((b : Int) < 256)) = true := by simp; omega
    show toBytes (AV.int .u8 (b : Int) :: bs l) = _
    unfold toBytes
    rw [h3, h1]
    simp
theorem b2s_ok {H : Hp} {x : AV} {l : List Nat} (h : Rw H 1 x (bs l)) (hl : ∀ b ∈ l, b < 256) : b2s x H = some (.str l) := by
  generalize hbl : bs l = cs at h
  cases h with
  | nil =>
    have : l = [] := by simpa [bs] using hbl
    subst this; rfl
  | @emp i off =>
    have : l = [] := by simpa [bs] using hbl
    subst this; rfl
  | @mk i off n cap ex l' hr hn hc he =>
    rw [Nat.mul_one] at hn
    unfold b2s
    simp only
    by_cases h0 : n = 0
    · subst h0
      have : l = [] := by
        subst hbl
        simpa [bs] using hn
      subst this; rfl
    · rw [beq_f h0, cond_false, ← hn, hr.cellsAt, ← hbl]
      simp only [Option.bind_some, toBytes_bs l hl]
      rfl

/-! parts of rows -/
theorem bound_i {k : IntKind} {n lo hi : Nat} (h1 : lo ≤ n) (h2 : n ≤ hi) : bound lo hi (.int k n) = some n := by
  unfold bound
  have : (decide ((lo : Int) ≤ (n : Int)) && decide ((n : Int) ≤ (hi : Int))) = true := by simp; omega
  simp only [this, if_true, Int.toNat_natCast]
/-- what stands for a bound -/
def Bd (o : Option AV) (n dflt : Nat) : Prop := (o = none ∧ n = dflt) ∨ ∃ k, o = some (.int k n)
theorem Bd.no (n : Nat) : Bd none n n := .inl ⟨rfl, rfl⟩
theorem Bd.yes (k : IntKind) (n d : Nat) : Bd (some (.int k n)) n d := .inr ⟨k, rfl⟩
theorem Bd.yes0 (k : IntKind) (d : Nat) : Bd (some (.int k 0)) 0 d := .inr ⟨k, rfl⟩
theorem sliceBnd_ok {len cap a b : Nat} {lo hi : Option AV} (hab : a ≤ b) (hb : b ≤ len) (hc : len ≤ cap) (hlo : Bd lo a 0) (hhi : Bd hi b len) : sliceBnd len cap lo hi none = some (a, b, cap) := by
  unfold sliceBnd
  rcases hhi with ⟨rfl, rfl⟩ | ⟨k, rfl⟩ <;> rcases hlo with ⟨rfl, rfl⟩ | ⟨j, rfl⟩
  · rfl
  · simp only [Option.bind_eq_bind, Option.bind_some, bound_i (Nat.zero_le _) hab]; rfl
  · simp only [Option.bind_eq_bind, Option.bind_some, bound_i (Nat.zero_le _) (Nat.le_trans hb hc)]; rfl
  · simp only [Option.bind_eq_bind, Option.bind_some, bound_i (Nat.zero_le _) (Nat.le_trans hb hc), bound_i (Nat.zero_le _) hab]; rfl
theorem sll_rw {H : Hp} {es n a b : Nat} {x : AV} {l : List AV} (h : Rw H es x l) (hl : l.length = n * es) (hes : 0 < es) {lo hi : Option AV} (hab : a ≤ b) (hb : b ≤ n) (hlo : Bd lo a 0) (hhi : Bd hi b n) :
    ∃ x', sll es x lo hi none = some x' ∧ Rw H es x' ((l.drop (a * es)).take ((b - a) * es)) ∧ ∀ j ∈ rid x', j ∈ rid x := by
  cases h with
  | nil =>
    have hn : n = 0 := by
      simp only [List.length_nil] at hl
      rcases Nat.mul_eq_zero.1 hl.symm with q | q <;> omega
    subst hn
    have hb0 : b = 0 := by omega
    have ha0 : a = 0 := by omega
    subst hb0; subst ha0
    refine ⟨.slice0, ?_, by simpa using Rw.nil, fun j hj => hj⟩
    unfold sll
    simp only [sliceBnd_ok (Nat.le_refl 0) (Nat.le_refl 0) (Nat.le_refl 0) hlo hhi]; rfl
  | @emp i off =>
    have hn : n = 0 := by
      simp only [List.length_nil] at hl
      rcases Nat.mul_eq_zero.1 hl.symm with q | q <;> omega
    subst hn
    have hb0 : b = 0 := by omega
    have ha0 : a = 0 := by omega
    subst hb0; subst ha0
    refine ⟨.slice i (off + 0 * es) 0 0 true es, ?_, by simpa using Rw.emp, fun j hj => by cases hj⟩
    unfold sll
    simp only [sliceBnd_ok (Nat.le_refl 0) (Nat.le_refl 0) (Nat.le_refl 0) hlo hhi]
    simp
  | @mk i off m cap ex l hr hn hc he =>
    have hm : m = n := Nat.eq_of_mul_eq_mul_right hes (hn.symm.trans hl)
    subst hm
    refine ⟨.slice i (off + a * es) (b - a) (cap - a) ex es, ?_, ?_, ?_⟩
    · unfold sll
      simp only [sliceBnd_ok hab hb hc hlo hhi, Option.bind_some]
      simp
    · cases hq : (ex && Nat.beq (cap - a) 0) with
      | true =>
        rw [Bool.and_eq_true] at hq
        obtain ⟨rfl, h0⟩ := hq
        have h0 := Nat.eq_of_beq_eq_true h0
        have hba : b - a = 0 := by omega
        rw [h0, hba, Nat.zero_mul, List.take_zero]
        exact .emp
      | false =>
        have h1 : a * es ≤ l.length := by rw [hl]; exact Nat.mul_le_mul_right _ (by omega)
        refine .mk ((hr.drop (a * es) h1).take _) ?_ (by omega) hq
        rw [List.length_take, List.length_drop, hl, ← Nat.sub_mul]
        exact Nat.min_eq_left (Nat.mul_le_mul_right _ (by omega))
    · intro j hj
      rw [rid_s he]
      simp only [rid] at hj
      cases hq : (ex && Nat.beq (cap - a) 0) <;> rw [hq] at hj
      · exact hj
      · cases hj
theorem sll_ow {H : Hp} {el es n a b : Nat} {x : AV} {l : List AV} (h : Ow H el es x l) (hl : l.length = n * es) (hes : 0 < es) {lo hi : Option AV} (hab : a ≤ b) (hb : b ≤ n) (hlo : Bd lo a 0) (hhi : Bd hi b n) :
    ∃ x', sll es x lo hi none = some x' ∧ Ow H el es x' ((l.drop (a * es)).take ((b - a) * es)) ∧ ∀ j ∈ rid x', j ∈ rid x := by
  cases h with
  | nil =>
    have hn : n = 0 := by
      simp only [List.length_nil] at hl
      rcases Nat.mul_eq_zero.1 hl.symm with q | q <;> omega
    subst hn
    have hb0 : b = 0 := by omega
    have ha0 : a = 0 := by omega
    subst hb0; subst ha0
    refine ⟨.slice0, ?_, by simpa using Ow.nil, fun j hj => hj⟩
    unfold sll
    simp only [sliceBnd_ok (Nat.le_refl 0) (Nat.le_refl 0) (Nat.le_refl 0) hlo hhi]; rfl
  | @emp i off =>
    have hn : n = 0 := by
      simp only [List.length_nil] at hl
      rcases Nat.mul_eq_zero.1 hl.symm with q | q <;> omega
    subst hn
    have hb0 : b = 0 := by omega
    have ha0 : a = 0 := by omega
    subst hb0; subst ha0
    refine ⟨.slice i (off + 0 * es) 0 0 true es, ?_, by simpa using Ow.emp, fun j hj => by cases hj⟩
    unfold sll
    simp only [sliceBnd_ok (Nat.le_refl 0) (Nat.le_refl 0) (Nat.le_refl 0) hlo hhi]
    simp
  | @mk i off m cap ex l c lo' hi2 fl hi' hg hf hlo' hhi' hc hn hcc hs h1 he =>
    have hm : m = n := Nat.eq_of_mul_eq_mul_right hes (hn.symm.trans hl)
    subst hm
    refine ⟨.slice i (off + a * es) (b - a) (cap - a) ex es, ?_, ?_, ?_⟩
    · unfold sll
      simp only [sliceBnd_ok hab hb hc hlo hhi, Option.bind_some]
      simp
    · cases hq : (ex && Nat.beq (cap - a) 0) with
      | true =>
        rw [Bool.and_eq_true] at hq
        obtain ⟨rfl, h0⟩ := hq
        have h0 := Nat.eq_of_beq_eq_true h0
        have hba : b - a = 0 := by omega
        rw [h0, hba, Nat.zero_mul, List.take_zero]
        exact .emp
      | false =>
        have h1' : a * es ≤ l.length := by rw [hl]; exact Nat.mul_le_mul_right _ (by omega)
        have hac : a * es + (cap - a) * es = cap * es := by rw [← Nat.add_mul]; congr 1; omega
        refine .mk hi' hg hf (by omega) (by omega) (by omega) ?_ (fun k v hk => ?_) (fun k hk => ?_) (fun v hv => h1 v (List.mem_of_mem_drop (List.mem_of_mem_take hv))) hq
        · rw [List.length_take, List.length_drop, hl, ← Nat.sub_mul]
          exact Nat.min_eq_left (Nat.mul_le_mul_right _ (by omega))
        · rw [List.getElem?_take] at hk
          split at hk
          · rw [List.getElem?_drop] at hk
            rw [Nat.add_assoc]; exact hcc _ v hk
          · cases hk
        · rw [Nat.add_assoc]; exact hs _ (by omega)
    · intro j hj
      rw [rid_s he]
      simp only [rid] at hj
      cases hq : (ex && Nat.beq (cap - a) 0) <;> rw [hq] at hj
      · exact hj
      · cases hj

/-! maps whose keys are strings -/
def ks (e : ME) (k : List Nat) : Prop := e.key = .str k
theorem fk_none {k : List Nat} : ∀ (es : List ME) (i : Nat), (∀ e ∈ es, ∃ q, e.key = .str q ∧ q ≠ k) → fk .str (.str k) es i = some none
  | [], i, _ => rfl
  | e :: es, i, h => by
    obtain ⟨q, h1, h2⟩ := h e (.head _)
    have : keq .str (.str k) e.key = some false := by
      rw [h1]
      show some (k == q) = some false
      rw [beq_false_of_ne (fun x => h2 x.symm)]
    unfold fk
    rw [this]
    exact fk_none es (i + 1) (fun e he => h e (.tail _ he))
theorem fk_some {k : List Nat} {e : ME} {b : List ME} (hk : e.key = .str k) : ∀ (a : List ME) (i : Nat), (∀ e ∈ a, ∃ q, e.key = .str q ∧ q ≠ k) → fk .str (.str k) (a ++ e :: b) i = some (some (i + a.length, e))
  | [], i, _ => by
    have : keq .str (.str k) e.key = some true := by
      rw [hk]
      show some (k == k) = some true
      rw [beq_self_eq_true]
    show fk .str (.str k) (e :: b) i = _
    unfold fk
    rw [this]; rfl
  | x :: a, i, h => by
    obtain ⟨q, h1, h2⟩ := h x (.head _)
    have : keq .str (.str k) x.key = some false := by
      rw [h1]
      show some (k == q) = some false
      rw [beq_false_of_ne (fun x => h2 x.symm)]
    show fk .str (.str k) (x :: (a ++ e :: b)) i = _
    unfold fk
    rw [this]
    simp only
    rw [fk_some hk a (i + 1) (fun e he => h e (.tail _ he)), List.length_cons]
    congr 3; omega
theorem mapOf_m {H : Hp} {i : Nat} {es : List ME} {c : Nat} (h : Mp H i es c) : mapOf H (.map i) = some (es, c) := by
  unfold mapOf
  simp only [h.2]
theorem lkp_none {H : Hp} {i : Nat} {es : List ME} {c : Nat} {k : List Nat} (h : Mp H i es c) (hk : ∀ e ∈ es, ∃ q, e.key = .str q ∧ q ≠ k) (z : AV) (ok : Bool) : lkp .str z ok (.map i) (.str k) H = some (bif ok then .tuple [z, .bool false] else z) := by
  unfold lkp
  rw [mapOf_m h]
  simp only [fk_none es 0 hk]
theorem lkp_some {H : Hp} {i : Nat} {a b : List ME} {e : ME} {c : Nat} {k : List Nat} (h : Mp H i (a ++ e :: b) c) (he : e.key = .str k) (hk : ∀ e ∈ a, ∃ q, e.key = .str q ∧ q ≠ k) (z : AV) (ok : Bool) :
    lkp .str z ok (.map i) (.str k) H = some (bif ok then .tuple [e.val, .bool true] else e.val) := by
  unfold lkp
  rw [mapOf_m h]
  simp only [fk_some he a 0 hk]
theorem Mp.set {H : Hp} {i : Nat} {es : List ME} {c : Nat} (h : Mp H i es c) (es' : List ME) (c' : Nat) : Mp (setObj H i (.map es' c')) i es' c' ∧ Out [i] H (setObj H i (.map es' c')) :=
  ⟨⟨h.1, by rw [get_setObj, if_pos rfl]⟩, Nat.le_refl _, fun j _ hn => by rw [get_setObj, if_neg (by simpa using hn)]⟩
theorem mup_new {H : Hp} {i : Nat} {es : List ME} {c : Nat} {k : List Nat} (h : Mp H i es c) (hk : ∀ e ∈ es, ∃ q, e.key = .str q ∧ q ≠ k) (v : AV) :
    ∃ H', mup .str (.map i) (.str k) v H = some H' ∧ Mp H' i (es ++ [⟨.str k, v, c⟩]) (c + 1) ∧ Out [i] H H' := by
  refine ⟨_, ?_, h.set _ _⟩
  unfold mup
  simp only [h.2, fk_none es 0 hk]
theorem mup_old {H : Hp} {i : Nat} {a b : List ME} {e : ME} {c : Nat} {k : List Nat} (h : Mp H i (a ++ e :: b) c) (he : e.key = .str k) (hk : ∀ e ∈ a, ∃ q, e.key = .str q ∧ q ≠ k) (v : AV) :
    ∃ H', mup .str (.map i) (.str k) v H = some H' ∧ Mp H' i (a ++ { e with key := .str k, val := v } :: b) c ∧ Out [i] H H' := by
  refine ⟨_, ?_, h.set _ _⟩
  unfold mup
  have hs : sameK e.key (.str k) = true := by rw [he]; simp [sameK, sameK1]
  simp only [h.2, fk_some he a 0 hk, hs, cond_true]
  simp
theorem mdel_some {H : Hp} {i : Nat} {a b : List ME} {e : ME} {c : Nat} {k : List Nat} (h : Mp H i (a ++ e :: b) c) (he : e.key = .str k) (hk : ∀ e ∈ a, ∃ q, e.key = .str q ∧ q ≠ k) :
    ∃ H', mdel .str (.map i) (.str k) H = some H' ∧ Mp H' i (a ++ b) c ∧ Out [i] H H' := by
  refine ⟨_, ?_, h.set _ _⟩
  unfold mdel
  simp only [h.2, fk_some he a 0 hk]
  simp [List.eraseIdx_append_of_length_le]
theorem mdel_none {H : Hp} {i : Nat} {es : List ME} {c : Nat} {k : List Nat} (h : Mp H i es c) (hk : ∀ e ∈ es, ∃ q, e.key = .str q ∧ q ≠ k) : mdel .str (.map i) (.str k) H = some H := by
  unfold mdel
  simp only [h.2, fk_none es 0 hk]
theorem lenm_m {H : Hp} {i : Nat} {es : List ME} {c : Nat} (h : Mp H i es c) : lenm (.map i) H = some (.int .i64 es.length) := by
  unfold lenm
  simp only [h.2]
theorem ia_s {es i off n cap : Nat} {ex : Bool} {k : IntKind} {j : Nat} (h : j < n) : ia es (.slice i off n cap ex es) (.int k j) = some (.ptr i (off + j * es)) := by
  unfold ia
  simp only
  rw [if_pos ⟨trivial, by omega, by omega⟩, Int.toNat_natCast]

theorem rid_nd (x : AV) : (rid x).Nodup := by
  cases x with
  | slice i o n c ex es =>
    show (bif ex && Nat.beq c 0 then [] else [i]).Nodup
    cases (ex && Nat.beq c 0) <;> simp
  | ptr i o => simp [rid]
  | map i => simp [rid]
  | _ => exact List.nodup_nil
theorem IFT_t (x : R) : IFT true x = x := Eq.trans rfl (id rfl)
theorem fl_nil (z : List AV) : fl z [] = some z := Eq.trans rfl (id rfl)
theorem nilS_t {P : Program} {T el : Nat} (hT : P.underlying T = some (.slice el)) (H : Hp) : binA P .eql T .slice0 .slice0 H = some (.bool true) := by
  unfold binA eqA
  simp only [hT]; rfl
theorem nilS_f {P : Program} {T el : Nat} (hT : P.underlying T = some (.slice el)) (i o n c : Nat) (ex : Bool) (es : Nat) (H : Hp) : binA P .eql T (.slice i o n c ex es) .slice0 H = some (.bool false) := by
  unfold binA eqA
  simp only [hT]; rfl
theorem nilS_nt {P : Program} {T el : Nat} (hT : P.underlying T = some (.slice el)) (H : Hp) : binA P .neq T .slice0 .slice0 H = some (.bool false) := by
  unfold binA eqA
  simp only [hT]; rfl
theorem nilS_nf {P : Program} {T el : Nat} (hT : P.underlying T = some (.slice el)) (i o n c : Nat) (ex : Bool) (es : Nat) (H : Hp) : binA P .neq T (.slice i o n c ex es) .slice0 H = some (.bool true) := by
  unfold binA eqA
  simp only [hT]; rfl
theorem gA_e0 (P : Program) (T : Nat) (c : Bool) : gA P .eql T c .slice0 .slice0 = true := Eq.trans rfl (id rfl)
theorem gA_es (P : Program) (T : Nat) (c : Bool) (i o n k : Nat) (ex : Bool) (es : Nat) : gA P .eql T c (.slice i o n k ex es) .slice0 = true := Eq.trans rfl (id rfl)
theorem gA_n0 (P : Program) (T : Nat) (c : Bool) : gA P .neq T c .slice0 .slice0 = true := Eq.trans rfl (id rfl)
theorem gA_ns (P : Program) (T : Nat) (c : Bool) (i o n k : Nat) (ex : Bool) (es : Nat) : gA P .neq T c (.slice i o n k ex es) .slice0 = true := Eq.trans rfl (id rfl)
theorem max_i (P : Program) (t : Array TypeId) (k j : IntKind) (a b : Int) (H : Hp) : builtinA P .max t [.int k a, .int j b] H = some (.int k (if a < b then b else a), H) := Eq.trans rfl (id rfl)
theorem min_i (P : Program) (t : Array TypeId) (k j : IntKind) (a b : Int) (H : Hp) : builtinA P .min t [.int k a, .int j b] H = some (.int k (if b < a then b else a), H) := Eq.trans rfl (id rfl)
/-- an element of a row of single cells -/
theorem Rw.ia1 {H : Hp} {x : AV} {l : List AV} (h : Rw H 1 x l) {i : Nat} {v : AV} (hv : l[i]? = some v) (k : IntKind) : ∃ q, ia 1 x (.int k i) = some q ∧ ld q H = some v := by
  cases h with
  | nil => cases hv
  | emp => cases hv
  | @mk j off n cap ex l hr hn hc he =>
    have hi := (List.getElem?_eq_some_iff.1 hv).1
    refine ⟨.ptr j (off + i), ?_, hr.ld hv⟩
    have hin : i < n := by omega
    rw [ia_s hin, Nat.mul_one]
end K
end Go.Proofs.YtlomlkoimmpemaaGreatDoor.Am
