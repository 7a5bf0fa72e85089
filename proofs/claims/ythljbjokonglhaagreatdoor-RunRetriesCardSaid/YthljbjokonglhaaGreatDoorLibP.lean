/- strconv's parts and math/bits.Len64, as functions that are taken by their contracts. Conditions: what the arguments' cells hold, as stated. -/
import Derived.Test.YthljbjokonglhaaGreatDoorLibS
import Derived.Shelf.Strconv.Itoa0
import Derived.Shelf.Strconv.Itoa2
import Derived.Shelf.Strconv.AtoiAll
set_option linter.unusedVariables false
set_option linter.unusedSimpArgs false
namespace Go.Proofs.YthljbjokonglhaaGreatDoor.LibP
open Go Am Go.Sort Go.RowKit Go.Proofs LibS
theorem names0 : NamesOK Tryz.prog := by unfold NamesOK; kernel_rfl
/-! math/bits.Len64 -/
noncomputable section
open Classical in
def len64P : Prim := fun args H => match args with
  | [.int .u64 x] => if 0 ≤ x ∧ x ≤ 18446744073709551615 then some (.int .i64 (Lib.bitLen x.toNat), H) else none
  | _ => none
/-- the digits of u, so many -/
def digs (u n : Nat) : List AV := (List.range n).map fun t => AV.int .u8 ((Lib.dg u (n - 1 - t)).toNat)
open Classical in
def fb2 (H : Hp) (i off n u : Nat) (o : AO) : Option (AV × Hp) := match o with
  | .cells c lo hi el fl => if lo ≤ off ∧ off + n ≤ hi ∧ fl ≤ 1 ∧ (∃ l, cellsAt H i off n = some l ∧ ∀ v ∈ l, ∃ b : Nat, b < 256 ∧ v = .int .u8 b) then some (.tuple [], { H with h := H.h.upd i (.cells (c.puts off (digs u n)) lo hi el fl) }) else none
  | _ => none
open Classical in
def fb10P : Prim := fun args H => match args with
  | [.slice i off n cap ex es, .int .u64 u] => if es = 1 ∧ 0 < n ∧ n < 4611686018427387904 ∧ 0 ≤ u ∧ u < 18446744073709551616 ∧ u.toNat < 10 ^ n then (H.h.get i).bind (fb2 H i off n u.toNat) else none
  | _ => none
/-- what is read of the two errors -/
structure ErrA (H : Hp) : Prop where
  syn : ∃ t p, cellAt H 4 0 = some (.iface t p)
  rng : ∃ t p, cellAt H 5 0 = some (.iface t p)
def u8of (s : List Nat) : List UInt8 := s.map UInt8.ofNat
def atoiR (s : List Nat) : AV := match Lib.atoiAll (u8of s) with
  | .ok v => .tuple [.int .i64 v, .nilIface]
  | .range => .tuple [.int .i64 (Lib.atoiSat (u8of s)), .iface 186 .junk]
  | _ => .tuple [.int .i64 0, .iface 186 .junk]
open Classical in
def atoiP : Prim := fun args H => match args with
  | [.str s] => if ErrA H ∧ s.length ≤ 281474976710656 then some (atoiR s, H) else none
  | _ => none
end
theorem len64One : PrimOne Tryz.prog 135 len64P := by
  intro args H v H' hp F W e w as' hR ha
  unfold len64P at hp
  split at hp
  · rename_i x
    split at hp
    · rename_i hx
      cases hp
      obtain ⟨a', r1, e1, hv1, hr1⟩ := ha.cons_inv
      have e3 := hr1.nil_inv
      subst e3
      have := hv1.int_inv
      subst this
      obtain rfl : as' = #[.int .u64 x] := Array.toList_inj.1 e1
      refine ⟨run_enter names0 Tryz.func135 rfl _ w, (Any.bits_Len64 Tryz.lays129 x w hx.1 hx.2).mono ?_⟩
      rintro en w' ⟨rfl, rfl⟩
      exact ⟨e, _, rfl, e.le_refl, hR, .int _ _⟩
    · cases hp
  · cases hp
theorem VR.two {e : Em} {a b : AV} {a' b' : Value} (h : VR e a a') (k : VR e b b') : VR e (.tuple [a, b]) (.tuple #[a', b']) := by
  refine .tuple _ _ rfl ?_
  intro i v v' h1 h2
  match i, h1, h2 with
  | 0, h1, h2 => cases h1; cases h2; exact h
  | 1, h1, h2 => cases h1; cases h2; exact k
/-! internal/strconv.formatBase10 -/
theorem fb10One : PrimOne Tryz.prog 123 fb10P := by
  intro args H v H' hp Fr W e w as' hR ha
  unfold fb10P at hp
  split at hp
  · rename_i i off n cap ex es u
    obtain ⟨a', r1, e1, hv1, hr1⟩ := ha.cons_inv
    obtain ⟨b', r2, e2, hv2, hr2⟩ := hr1.cons_inv
    have e3 := hr2.nil_inv
    subst e3
    have hu' := hv2.int_inv
    subst hu'
    split at hp
    · rename_i hc
      obtain ⟨rfl, hn0, hbig, hu0, hu64, hupow⟩ := hc
      obtain ⟨un, rfl⟩ : ∃ un : Nat, u = un := ⟨u.toNat, by omega⟩
      rw [Int.toNat_natCast] at hp hupow
      rcases hv1.slice_inv with ⟨o, cc, k1, k2, k3, k4, k5, k6, rfl⟩ | ⟨q, _, a, rfl⟩
      · obtain ⟨ob0, hg, hp⟩ := Option.bind_eq_some_iff.1 hp
        unfold fb2 at hp
        split at hp
        · rename_i c lo hi el fl
          split at hp
          · rename_i hcond
            obtain ⟨g1, g2, g3, l, hl, hby⟩ := hcond
            cases hp
            obtain ⟨cs, c1, c2, c3⟩ := hR.loads hl k2
            have hln : l.length = n := by rw [← c1.1, c2]
            obtain ⟨d, hd1, hd2⟩ : ∃ d : List UInt8, d.length = n ∧ ∀ (j : Nat) (z : UInt8), d[j]? = some z → l[j]? = some (AV.int .u8 (z.toNat : Int)) := by
              refine ⟨l.map fun v => match v with | AV.int _ b => UInt8.ofNat b.toNat | _ => 0, by simp [hln], fun j z hj => ?_⟩
              rw [List.getElem?_map, Option.map_eq_some_iff] at hj
              obtain ⟨v, hv, rfl⟩ := hj
              obtain ⟨b, hb, rfl⟩ := hby v (List.mem_of_getElem? hv)
              rw [hv]
              simp only [Int.toNat_natCast, UInt8.toNat_ofNat']
              rw [Nat.mod_eq_of_lt hb]
            have hcs : ∀ (j : Nat) (z : UInt8), d[j]? = some z → w.cell? ⟨e.b i, o + j, none⟩ = some (.int .u8 (z.toNat : Int)) := by
              intro j z hj
              obtain ⟨v', hv', hr'⟩ := c1.get (hd2 j z hj)
              have := hr'.int_inv
              subst this
              exact c3 j _ hv'
            obtain ⟨hN, ob, hob, hor, hF⟩ := hR.obj i _ hg
            cases hor with
            | cells _ _ _ _ _ C fz hn hcc hf0 hf1 hd =>
              have hsz : o + n ≤ C.size := by rw [hn]; omega
              have hH : Holds (fun (b : UInt8) => Value.int .u8 (b.toNat : Int)) w (e.b i) o d.toArray := by
                intro j hj
                have hj' : j < d.length := by simpa using hj
                refine ⟨?_, ?_⟩
                · rw [hcs j d[j] (List.getElem?_eq_getElem hj')]
                  simp [hj']
                · have := hf1 g3 (o + j) (by omega)
                  simp only [World.frozen?, hob]
                  exact this
              obtain rfl : as' = #[.slice (some ⟨e.b i, o, none⟩) n cc, .int .u64 un] := Array.toList_inj.1 (by rw [e1, e2])
              have hcall := Any.internal_strconv_formatBase10 Tryz.lays285 (e.b i) o cc un d.toArray w hH (by simpa [hd1] using hupow) (by omega) (by simpa [hd1] using hbig)
              have hdz : d.toArray.size = n := by simp [hd1]
              rw [hdz] at hcall
              refine ⟨run_enter names0 Tryz.func123 rfl _ w, hcall.mono ?_⟩
              rintro en w' ⟨rfl, m, v', dk, rfl, hinv⟩
              refine ⟨e, _, rfl, e.le_refl, ?_, tup0 e⟩
              have hdk : ∀ t, t < n → dk[t]! = Lib.dg un (n - 1 - t) := fun t ht => hinv.done t (Nat.zero_le _) ht
              have hds := hinv.size
              have hnl : (digs un n).length = n := by simp [digs]
              have hR2 : RH Tryz.prog.globals.size Fr W e { H with h := H.h.upd i (.cells (c.puts off (digs un n)) lo hi el fl) } (putRow (fun (b : UInt8) => Value.int .u8 (b.toNat : Int)) w (e.b i) o dk) := by
                refine hR.put hg (by simp [wr, g3]) (ob' := .cells (putCells (fun (b : UInt8) => Value.int .u8 (b.toNat : Int)) o dk C) el fz) ?_ ?_ ?_ ?_ rfl rfl rfl
                · simp [putRow, mapBlock]
                · simp only [putRow, mapBlock]
                  rw [get_modify_same _ _ _ hob]
                  rfl
                · intro k hk
                  simp only [putRow, mapBlock]
                  rw [get_modify_ne _ _ _ _ (fun q => hk q.symm)]
                · have hps : (putCells (fun (b : UInt8) => Value.int .u8 (b.toNat : Int)) o dk C).size = C.size := by simp [putCells]
                  refine .cells _ lo hi el fl _ fz (by rw [hps]; exact hn) ?_ hf0 (by rw [hps]; exact hf1) hd
                  intro k u' a b hk
                  rw [Tr.get_putsA, hnl] at hk
                  by_cases hin : off ≤ k ∧ k < off + n
                  · rw [if_pos hin] at hk
                    have hj : k - off < n := by omega
                    have hu : u' = .int .u8 ((Lib.dg un (n - 1 - (k - off))).toNat) := by
                      have : (digs un n)[k - off]? = some (.int .u8 ((Lib.dg un (n - 1 - (k - off))).toNat)) := by simp [digs, hj]
                      rw [this] at hk
                      exact (Option.some.inj hk).symm
                    subst hu
                    refine ⟨o + (k - off), by omega, .int .u8 ((Lib.dg un (n - 1 - (k - off))).toNat), ?_, .int _ _⟩
                    have hC : o + (k - off) < C.size := by omega
                    simp only [putCells]
                    rw [Array.getElem?_mapIdx, Array.getElem?_eq_getElem hC]
                    simp only [Option.map_some]
                    rw [if_pos (by omega), Nat.add_sub_cancel_left, hdk _ hj]
                  · rw [if_neg hin] at hk
                    obtain ⟨k2', hk2', u2, hu2, hr'⟩ := hcc k u' a b hk
                    refine ⟨k2', hk2', u2, ?_, hr'⟩
                    simp only [putCells]
                    rw [Array.getElem?_mapIdx, hu2]
                    simp only [Option.map_some]
                    rw [if_neg (by omega)]
              exact hR2.drawn _
          · cases hp
        · cases hp
      · omega
    · cases hp
  · cases hp
/-! strconv.Atoi -/
theorem ErrA.cells {Fr : Nat → Prop} {W : World} {e : Em} {H : Hp} {w : World} (h : ErrA H) (hR : RH Tryz.prog.globals.size Fr W e H w) :
    (∃ t p, w.cell? ⟨4, 0, none⟩ = some (.iface t p)) ∧ ∃ t p, w.cell? ⟨5, 0, none⟩ = some (.iface t p) := by
  have hs2 : 4 < Tryz.prog.globals.size := by rw [← Nat.blt_eq]; kernel_rfl
  have hs3 : 5 < Tryz.prog.globals.size := by rw [← Nat.blt_eq]; kernel_rfl
  have key : ∀ g k v, g < Tryz.prog.globals.size → cellAt H g (k : Nat) = some v → ∃ v', w.cell? ⟨g, k, none⟩ = some v' ∧ VR e v v' := by
    intro g k v hg hc
    obtain ⟨_, o, ho, v', h1, h2⟩ := hR.load hc
    obtain ⟨_, hb, hd⟩ := hR.glob g hg
    rw [hb] at h1
    rw [hd] at ho
    obtain rfl : o = k := by omega
    exact ⟨v', h1, h2⟩
  refine ⟨?_, ?_⟩
  · obtain ⟨t, p, hc⟩ := h.syn
    obtain ⟨v', h1, h2⟩ := key _ 0 _ hs2 hc
    cases h2
    exact ⟨_, _, h1⟩
  · obtain ⟨t, p, hc⟩ := h.rng
    obtain ⟨v', h1, h2⟩ := key _ 0 _ hs3 hc
    cases h2
    exact ⟨_, _, h1⟩
theorem u8_bytes (s : ByteArray) : u8of (Am.bytes s) = s.data.toList := by
  unfold u8of Am.bytes
  rw [List.map_map, List.map_congr_left (g := id) (fun x _ => by simp)]
  simp
theorem atoiOne : PrimOne Tryz.prog 106 atoiP := by
  intro args H v H' hp F W e w as' hR ha
  unfold atoiP at hp
  split at hp
  · rename_i s
    split at hp
    · rename_i hx
      cases hp
      obtain ⟨hE, hlen⟩ := hx
      obtain ⟨a', r1, e1, hv1, hr1⟩ := ha.cons_inv
      have e3 := hr1.nil_inv
      subst e3
      obtain ⟨s', rfl, rfl⟩ := hv1.str_inv
      obtain rfl : as' = #[.string s'] := Array.toList_inj.1 e1
      refine ⟨run_enter names0 Tryz.func106 rfl _ w, ?_⟩
      have hl : s'.size ≤ 281474976710656 := by
        have : s'.size = (Am.bytes s').length := by simp [Am.bytes]
        omega
      obtain ⟨⟨t1, p1, q1⟩, ⟨t2, p2, q2⟩⟩ := hE.cells hR
      unfold atoiR
      rw [u8_bytes]
      cases hr : Lib.atoiAll s'.data.toList with
      | ok v =>
        refine (Any.strconv_Atoi_ok Tryz.laysC172 s' (by omega) v hr w).mono ?_
        rintro en w' ⟨rfl, hw⟩
        refine ⟨e, _, rfl, e.le_refl, ?_, VR.two (.int _ _) .nilIface⟩
        rcases hw with rfl | ⟨t, rfl⟩
        · exact hR
        · exact hR.below (Lib.bytesWorld_below _ _ _)
      | range =>
        refine (Any.strconv_Atoi_range Tryz.laysC172 s' hl hr _ w q2 (.inr ⟨_, _, rfl⟩)).mono ?_
        rintro en w' ⟨N, rfl, _, _, hb⟩
        exact ⟨e, _, rfl, e.le_refl, hR.below hb, VR.two (.int _ _) (.iface _ _ _ (.junk _))⟩
      | _ =>
        refine (Any.strconv_Atoi_syntax Tryz.laysC172 s' hl hr _ w q1 (.inr ⟨_, _, rfl⟩)).mono ?_
        rintro en w' ⟨N, rfl, _, _, hb⟩
        exact ⟨e, _, rfl, e.le_refl, hR.below hb, VR.two (.int _ _) (.iface _ _ _ (.junk _))⟩
    · cases hp
  · cases hp
end Go.Proofs.YthljbjokonglhaaGreatDoor.LibP
