/- Where a run of the evaluator begins: the listed variables and the parameters, read only; and what a closed run gives (of no program). -/
import Derived.Test.YtehhgkgeldinkaaGreatDoorAm5
import Derived.Stop.LaidErr
import Derived.Lib.LaidU8
import Derived.Laws.Externs
set_option linter.unusedVariables false
set_option linter.unusedSimpArgs false
namespace Go.Proofs.YtehhgkgeldinkaaGreatDoor.Am
open Go.RowKit
set_option linter.unusedVariables false
set_option linter.unusedSimpArgs false

def layO (el : Nat → TypeId) : List (Nat × List AV) → Tr AO
  | [] => .nil
  | (g, l) :: r => (layO el r).put 34 g (.cells (Tr.puts .nil 0 l) 0 l.length (el g) 2)
/-- further objects, read only -/
def layP : List (Nat × AO) → Tr AO → Tr AO
  | [], t => t
  | (i, o) :: r, t => (layP r t).put 34 i o

theorem layO_get (el : Nat → TypeId) : ∀ (L : List (Nat × List AV)), (∀ x ∈ L, x.1 < 4294967296) → ∀ (i : Nat) (o : AO), (layO el L).get i = some o → ∃ l, (i, l) ∈ L ∧ o = .cells (Tr.puts .nil 0 l) 0 l.length (el i) 2
  | [], _, i, o, h => by rw [layO, Tr.get_nil] at h; cases h
  | (g, l) :: r, hb, i, o, h => by
    rw [layO, Tr.get_put _ _ _ _ _ (by have := hb (g, l) (.head _); simp only at this; omega)] at h
    by_cases e : i = g
    · rw [if_pos e] at h
      cases h
      subst e
      exact ⟨l, .head _, rfl⟩
    · rw [if_neg e] at h
      obtain ⟨l', hm, ho⟩ := layO_get el r (fun x hx => hb x (.tail _ hx)) i o h
      exact ⟨l', .tail _ hm, ho⟩
theorem layP_get : ∀ (L : List (Nat × AO)) (t : Tr AO) (i : Nat) (o : AO), (layP L t).get i = some o → (i, o) ∈ L ∨ t.get i = some o
  | [], t, i, o, h => .inr h
  | (j, x) :: r, t, i, o, h => by
    rw [layP, Tr.put, Tr.get_putP] at h
    split at h
    · rename_i e
      cases h
      subst e
      exact .inl (.head _)
    · rcases layP_get r t i o h with q | q
      · exact .inl (.tail _ q)
      · exact .inr q

def elAt (W : World) (g : Nat) : TypeId := match W.heap[g]? with | some (.cells _ t _) => t | _ => 0
def szAt (W : World) (g : Nat) : Nat := match W.heap[g]? with | some (.cells c _ _) => c.size | _ => 0

/-- the variables stand at their own numbers; from G on, further places; at G stands the bound of what is there -/
def start (W : World) (G N : Nat) (bx : Nat → Nat) (dx : Nat → Int) (nx : Nat → Nat) : Em :=
  { b := fun i => if i < G then i else bx i, d := fun i => if i < G then 0 else dx i, n := fun i => if i < G then szAt W i else if i = G then W.heap.size else nx i, N := N }

theorem RH.start {W : World} {G N : Nat} (bx : Nat → Nat) (dx : Nat → Int) (nx : Nat → Nat) {L : List (Nat × List AV)} {PO : List (Nat × AO)} (hN : G < N) (hG : G < 4294967296) (hsz : G ≤ W.heap.size)
    (hL : ∀ g l, (g, l) ∈ L → g < G ∧ l.length < 4294967296 ∧ ∃ cs t, W.heap[g]? = some (.cells cs t (0, 0)) ∧ ∀ (k : Nat) (v : AV), l[k]? = some v → ∃ v', cs[k]? = some v' ∧ VR (Am.start W G N bx dx nx) v v')
    (hP : ∀ i o, (i, o) ∈ PO → G < i ∧ i < N ∧ wr o = false ∧ ∃ ob, W.heap[bx i]? = some ob ∧ OR (Am.start W G N bx dx nx) i o ob) :
    RH G (fun k => k < W.heap.size) W (Am.start W G N bx dx nx) ⟨layP PO (layO (elAt W) L), N⟩ W := by
  have key : ∀ i o, (layP PO (layO (elAt W) L)).get i = some o → i < N ∧ wr o = false ∧ (Am.start W G N bx dx nx).b i < W.heap.size ∧ ∃ ob, W.heap[(Am.start W G N bx dx nx).b i]? = some ob ∧ OR (Am.start W G N bx dx nx) i o ob := by
    intro i o h
    rcases layP_get _ _ _ _ h with h | h
    · obtain ⟨h1, h2, h3, ob, h5, h6⟩ := hP i o h
      have eb : (Am.start W G N bx dx nx).b i = bx i := by simp only [Am.start]; rw [if_neg (by omega)]
      rw [eb]
      exact ⟨h2, h3, (Array.getElem?_eq_some_iff.1 h5).1, ob, h5, h6⟩
    · obtain ⟨l, hm, rfl⟩ := layO_get _ L (fun x hx => by have := (hL x.1 x.2 hx).1; omega) i o h
      obtain ⟨hi, hl, cs, t, hw, hc⟩ := hL i l hm
      have eb : (Am.start W G N bx dx nx).b i = i := by simp [Am.start, hi]
      rw [eb]
      refine ⟨by omega, rfl, by omega, _, hw, ?_⟩
      have he : elAt W i = t := by simp [elAt, hw]
      have hs : szAt W i = cs.size := by simp [szAt, hw]
      have hd : (Am.start W G N bx dx nx).d i = 0 := by simp [Am.start, hi]
      rw [he]
      refine .cells _ 0 l.length t 2 cs (0, 0) ?_ ?_ (by simp) (by simp) (fun _ => hd)
      · simp [Am.start, hi, hs]
      · intro k v _ hk hv
        rw [Tr.get_puts (α := AV) .nil _ _ _ _ (by omega), if_pos (by omega), Nat.sub_zero] at hv
        obtain ⟨v', a, b⟩ := hc k v hv
        exact ⟨k, by rw [hd]; omega, v', a, b⟩
  have hnG : (Am.start W G N bx dx nx).n G = W.heap.size := by simp [Am.start]
  refine ⟨rfl, ?_, ?_, ?_, fun k hk => ⟨hk, rfl⟩, rfl, rfl, rfl, Nat.le_refl _, hsz, hN, by rw [hnG]; exact Nat.le_refl _⟩
  · intro i o h
    obtain ⟨hi, hw, hb, ob, a, b⟩ := key i o h
    refine ⟨hi, ob, a, b, ?_⟩
    intro q
    rcases q with q | q
    · rw [hw] at q; cases q
    · rw [hnG] at q; omega
  · intro i j oi oj h1 h2 hq e
    obtain ⟨_, hw, hb, _⟩ := key i oi h1
    rcases hq with q | q
    · rw [hw] at q; cases q
    · rw [hnG] at q; omega
  · intro g hg
    exact ⟨Nat.lt_trans hg hN, by simp [Am.start, hg], by simp [Am.start, hg]⟩

/-- a closed run that the evaluator answers with true is one that the model answers with true, and turns nothing that was there -/
theorem closed_true {P : Program} {ext : Nat → Option Ext} {prim : Nat → Option Prim} (hm : P.follows .mixedOrders = true) (hN : NamesOK P) (hE : ExtOK P ext) (hP : PrimOK P prim) {fuel g : Nat} {fn : Func} {b : Code}
    (hf : P.funcs[g]? = some fn) (hb : fn.body = some b) {W : World} {e : Em} {H : Hp} (h : retTrue (callA P ext prim fuel g [] H) = true) (hR : RH P.globals.size (fun k => k < W.heap.size) W e H W) :
    Calls P g #[] W fun en w' => en = .returned (.bool true) ∧ Below W.heap.size W w' := by
  unfold retTrue at h
  split at h
  · rename_i H' hc
    refine (callA_sound hm hN hE hP hc hf hb hR (as' := #[]) (.nil e)).mono fun en w' ⟨e', v', he, _, hR', hv⟩ => ?_
    have := hv.bool_inv
    subst this
    exact ⟨he, ⟨hR'.os, hR'.tape, hR'.output, hR'.size, fun k hk => (hR'.frame k hk).2⟩⟩
  · cases h

theorem noPrim (P : Program) : PrimOK P (fun _ => none) := fun fid p h => by cases h
/-! the listed variables -/
theorem laid_place {P : Program} {w : World} : ∀ {l : List (String × DataW Unit)} {ps : List MemPlace}, DataW.LaidVars P w l ps → ∀ {n d}, (n, d) ∈ l →
    ∃ g cs, P.globalNamed n = some g ∧ w.var? P n = some cs ∧ ∀ x ∈ MemPlace.row ⟨g, 0, none⟩ cs.size, x ∈ ps
  | [], _, _, _, _, hm => by cases hm
  | (n', d') :: r, ps, h, n, d, hm => by
    obtain ⟨g, t, cs, fuel, p, q, h1, h2, h3, h4, h5, rfl⟩ := h
    rcases List.mem_cons.1 hm with e | e
    · cases e
      exact ⟨g, cs, h1, h3, fun x hx => List.mem_append_left _ (List.mem_append_left _ hx)⟩
    · obtain ⟨g', cs', a, b, c⟩ := laid_place h5 e
      exact ⟨g', cs', a, b, fun x hx => List.mem_append_right _ (c x hx)⟩

theorem laid_block {P : Program} {W : World} {l : List (String × DataW Unit)} (h : laidMet P l W) {n : String} {d : DataW Unit} (hm : (n, d) ∈ l) {g : Nat} (hg : P.globalNamed n = some g) {cs : Array Value}
    (hv : W.var? P n = some cs) (hc : 0 < cs.size) : ∃ t, W.heap[g]? = some (.cells cs t (0, 0)) := by
  obtain ⟨ps, hl, _, hr⟩ := h
  obtain ⟨g', cs', h1, h2, h3⟩ := laid_place hl hm
  obtain rfl := Option.some.inj (hg.symm.trans h1)
  obtain rfl := Option.some.inj (hv.symm.trans h2)
  obtain ⟨⟨c, t, hw⟩, _⟩ := hr g 0 (h3 _ (by simp [MemPlace.row]; omega))
  simp only [World.var?, hg, Option.bind_some, hw, Option.some.injEq] at hv
  subst hv
  exact ⟨t, hw⟩

theorem laid_table {P : Program} {W : World} {l : List (String × DataW Unit)} (h : laidMet P l W) {name : String} {k : IntKind} {zs : List Int} (hmem : (name, Lib.tabData k zs) ∈ l) {g : Nat} {t e : TypeId} {n : Nat}
    (hg : P.globalNamed name = some g) (hty : (P.globals[g]?).map (·.type) = some t) (ht : P.underlying t = some (.array n e)) (he : P.underlying e = some (.int k)) (hce : P.cellsOf e = 1) (hct : P.cellsOf t = n) (hz : zs ≠ []) (em : Em) :
    ∃ cs t, W.heap[g]? = some (.cells cs t (0, 0)) ∧ ∀ (i : Nat) (v : AV), (zs.map (AV.int k))[i]? = some v → ∃ v', cs[i]? = some v' ∧ VR em v v' := by
  obtain ⟨g', t', cs, fuel, p, hg', ht', hvar, hd⟩ := Lib.laidMet.reads h hmem
  obtain rfl := Option.some.inj (hg.symm.trans hg')
  obtain rfl := Option.some.inj (hty.symm.trans ht')
  have hcs := Lib.cells_of_tab ht he hce hct hd
  have hlen : 0 < cs.size := by
    have := congrArg List.length hcs
    simp at this
    rw [this]
    exact List.length_pos_iff.2 hz
  obtain ⟨t2, hw⟩ := laid_block h hmem hg hvar hlen
  refine ⟨cs, t2, hw, fun i v hv => ?_⟩
  rw [List.getElem?_map, Option.map_eq_some_iff] at hv
  obtain ⟨z, hz1, rfl⟩ := hv
  refine ⟨.int k z, ?_, .int k z⟩
  rw [← Array.getElem?_toList, hcs, List.getElem?_map, hz1]
  rfl

theorem laid_err {P : Program} {n nm : String} {text : List UInt8} {l : List (String × DataW Unit)} {W : World} {g : Nat} {ti tp te ts : TypeId} {ms : Array (String × TypeId)} {f : Field}
    (h : laidMet P l W) (hmem : (n, .iface nm (.ptr (.agg [.lit (.string text)]))) ∈ l)
    (hg : P.globalNamed n = some g) (ht : (P.globals[g]?).map (·.type) = some ti) (hi : P.underlying ti = some (.interface ms)) (hrow : ∀ u, P.typeName? 3 u = some nm → u = tp)
    (hp : P.underlying tp = some (.pointer te)) (he : P.underlying te = some (.struct #[f])) (hft : f.type = ts) (hfo : f.offset = 0) (hs : P.underlying ts = some .string) (hc : P.cellsOf te = 1) (hcs : P.cellsOf ts = 1) :
    ∃ (b o : Nat) (t : TypeId), W.heap[g]? = some (.cells #[.iface tp (.pointer (some ⟨b, o, none⟩))] t (0, 0)) := by
  obtain ⟨g', t', cs, fuel, p, hg', ht', hvar, hd⟩ := Lib.laidMet.reads h hmem
  obtain rfl := Option.some.inj (hg.symm.trans hg')
  obtain rfl := Option.some.inj (ht.symm.trans ht')
  have ok0 : ∀ u v, cs.toList = [.iface u v] → Value.okWide P W .any 0 u v := fun u v e => by
    obtain ⟨ps, hl, _, hr⟩ := h
    obtain ⟨g2, cs', h1, h2, h3⟩ := laid_place hl hmem
    obtain rfl := Option.some.inj (hg.symm.trans h1)
    obtain rfl := Option.some.inj (hvar.symm.trans h2)
    obtain rfl : cs = #[.iface u v] := by cases cs; simp_all
    exact (hr g 0 (h3 _ (by simp [MemPlace.row]))).2 u v (by simpa using World.var?_cell hg hvar 0)
  obtain ⟨a, s, hc0, hs0, _⟩ := errorString_of_trod hi hrow hp he hft hfo hs hc hcs hd ok0
  obtain rfl : cs = #[.iface tp (.pointer (some a))] := by cases cs; simp_all
  obtain ⟨t2, hw⟩ := laid_block h hmem hg hvar (by simp)
  obtain ⟨b, o, sp⟩ := a
  have : sp = none := by
    unfold World.cell? at hs0
    split at hs0
    · cases sp with
      | none => rfl
      | some x => simp at hs0
    · cases hs0
  subst this
  exact ⟨b, o, t2, hw⟩

/-! the functions without a body -/
theorem ext_of {P : Program} {fid : Nat} {fn : Func} {k : Ext} {e : Array Value → Sem Value} (hf : P.funcs[fid]? = some fn) (hname : (fn.name == "runtime.NumGoroutine") = false) (hb : fn.body.isNone = true)
    (hn : Extern.findNext fn = none) (he : Extern.find fn = some e) (hk : extRow k = e) (as' : Array Value) (w : World) :
    (callFunc fid as').run P w = (do Pure.pure (Next.value (← extRow k as')) : Sem Next).run P w := by
  rw [run_callFunc_extern hf hname hb hn he, hk, Sem.run_bind]
  rfl
end Go.Proofs.YtehhgkgeldinkaaGreatDoor.Am
