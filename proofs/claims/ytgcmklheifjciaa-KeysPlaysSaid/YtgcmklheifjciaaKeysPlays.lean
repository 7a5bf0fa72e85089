/- The walk of KeysPlays. -/
import Derived.Test.YtgcmklheifjciaaKeysFoot
import Derived.IntWalk
import Derived.Deep.DrawnRows
set_option linter.unusedVariables false
set_option linter.unusedSimpArgs false
namespace Go.Proofs.Ytgcmklheifjciaa.KyL
open Go.RowKit Hp KyW

/-- the reference's keys whose blocks are among G -/
structure RF (G : Nat → Prop) (w : World) (b most : Nat) (L : List (Ky.K × Int)) : Prop where
  rr : ∃ sl, RR w b most L sl ∧ G b ∧ ∀ g, sl.ownBlock = some g → G g
  lt : ∀ x, G x → x < w.heap.size
theorem RF.keep {F G : Nat → Prop} {w w' : World} {b most : Nat} {L : List (Ky.K × Int)} (h : RF G w b most L) (ho : Only F w w') (hd : ∀ x, F x → G x → False) : RF G w' b most L := by
  obtain ⟨⟨sl, h1, h2, h4⟩, h5⟩ := h
  exact ⟨⟨sl, h1.only ho (fun h => hd _ h h2) (fun g hg h => hd _ h (h4 g hg)), h2, h4⟩, fun x hx => Nat.lt_of_lt_of_le (h5 x hx) ho.size⟩
theorem RF.quiet {G : Nat → Prop} {w w' : World} {b most : Nat} {L : List (Ky.K × Int)} (h : RF G w b most L) (ho : Only (fun _ => False) w w') : RF G w' b most L := h.keep ho (fun _ h _ => h)
def RNewF (most : Nat) (w : World) (e : Ending) (w' : World) : Prop := ∃ b G, e = .returned (.pointer (some ⟨b, 0, none⟩)) ∧ RF G w' b most [] ∧ (∀ x, G x → w.heap.size ≤ x) ∧ Only (fun _ => False) w w'
theorem rnew_rf (w : World) (n : Int) : Calls Try.prog 14 #[.int .i64 n] w (RNewF (min (max n 1) 128).toNat w) :=
  (rnew_any w n).mono fun e w' ⟨he, hk, ho⟩ => by
    have hb := World.block_lt_of_cell? w' _ hk.c0
    simp only at hb
    exact ⟨_, fun x => x = w.heap.size, he, ⟨⟨_, hk, rfl, by simp [Value.ownBlock]⟩, fun x hx => by omega⟩, fun x hx => by omega, ho⟩
def RPutF (G : Nat → Prop) (b most : Nat) (r : Int) (ok : Bool) (L' : List (Ky.K × Int)) (w : World) (e : Ending) (w' : World) : Prop :=
  e = .returned (.tuple #[.int .i64 r, .bool ok]) ∧ ∃ G', RF G' w' b most L' ∧ Only G w w' ∧ ∀ x, G' x → G x ∨ w.heap.size ≤ x
theorem rput_rf (G : Nat → Prop) (w : World) (b most : Nat) (L : List (Ky.K × Int)) (h : RF G w b most L) (k1 k2 : ByteArray) (id : Int) (r : Int) (ok : Bool) (L' : List (Ky.K × Int)) (hp : Ky.put most L (k1, k2) id = (r, ok, L')) :
    Calls Try.prog 15 #[.pointer (some ⟨b, 0, none⟩), .string k1, .string k2, .int .i64 id] w (RPutF G b most r ok L' w) := by
  obtain ⟨⟨sl, h1, h2, h4⟩, h5⟩ := h
  refine (rput_any w b most L sl h1 k1 k2 id).mono ?_
  rintro e w' ⟨he, sl', hk, ho, hn⟩
  rw [hp] at he hk
  refine ⟨he, fun x => G x ∨ (sl'.ownBlock = some x ∧ x < w'.heap.size), ⟨⟨sl', hk, .inl h2, fun g hg => ?_⟩, fun x hx => ?_⟩, ho.mono (fun x _ hx => by subst hx; exact h2), fun x hx => ?_⟩
  · rcases hn with hn | hn
    · exact .inl (h4 g (by rw [← hn]; exact hg))
    · exact .inr ⟨hg, (hn g hg).2⟩
  · rcases hx with hx | hx
    · exact Nat.lt_of_lt_of_le (h5 x hx) ho.size
    · exact hx.2
  · rcases hx with hx | hx
    · exact .inl hx
    · rcases hn with hn | hn
      · exact .inl (h4 x (by rw [← hn]; exact hx.1))
      · exact .inr (hn x hx.1).1
theorem rget_rf (G : Nat → Prop) (w : World) (b most : Nat) (L : List (Ky.K × Int)) (h : RF G w b most L) (k1 k2 : ByteArray) (r : Option Int) (hp : Ky.get L (k1, k2) = r) :
    Calls Try.prog 16 #[.pointer (some ⟨b, 0, none⟩), .string k1, .string k2] w (Is2 (r.getD 0) r.isSome w) := by
  rw [← hp]
  obtain ⟨⟨sl, h1, h2, h4⟩, h5⟩ := h
  exact rget_any w b most L sl h1 k1 k2
theorem len_same (F : Nat → Prop) (w : World) (b most : Nat) (L : List (Ky.K × Int)) (h : KF F w b most L) :
    Calls Try.prog 11 #[.pointer (some ⟨b, 0, none⟩)] w fun e w' => e = .returned (.int .i64 L.length) ∧ w' = w := by
  obtain ⟨⟨bm, sl, h1, h2, h3, h4⟩, h5⟩ := h
  obtain ⟨ad, cap, hsl, hcap, hcm⟩ := h1.own.slAt.val
  have c2 := h1.c2
  rw [hsl] at c2
  clear h1 hsl
  go_enter Try.func11, Try.ntmps11
  go_wp2
  go_ret
  exact ⟨rfl, rfl⟩

structure Act where
  op : Int
  id : Int
  name : ByteArray
  key : ByteArray
def actc (a : Act) : List Value := [.int .i64 a.op, .int .i64 a.id, .string a.name, .string a.key]

/-- what stands at a round's head -/
structure Inv (W wr : World) (b rb most : Nat) (L : List (Ky.K × Int)) (F G : Nat → Prop) : Prop where
  k : KF F wr b most L
  r : RF G wr rb most L
  d : ∀ x, F x → G x → False
  fge : ∀ x, F x → W.heap.size ≤ x
  gge : ∀ x, G x → W.heap.size ≤ x
  bel : Below W.heap.size W wr
theorem Inv.quiet {W w w' : World} {b rb most : Nat} {L : List (Ky.K × Int)} {F G : Nat → Prop} (h : Inv W w b rb most L F G) (ho : Only (fun _ => False) w w') : Inv W w' b rb most L F G :=
  ⟨h.k.quiet ho, h.r.quiet ho, h.d, h.fge, h.gge, h.bel.trans (ho.below _ h.bel.size (fun x h => h.elim))⟩

/-- behind a Put to both -/
theorem Inv.put {W w w1 w2 : World} {b rb most : Nat} {L L' : List (Ky.K × Int)} {F G F' G' : Nat → Prop} (h : Inv W w b rb most L F G) (hk : KF F' w1 b most L') (ho1 : Only F w w1) (hF : ∀ x, F' x → F x ∨ w.heap.size ≤ x)
    (hr : RF G' w2 rb most L') (ho2 : Only G w1 w2) (hG : ∀ x, G' x → G x ∨ w1.heap.size ≤ x) : Inv W w2 b rb most L' F' G' := by
  have d1 := dis_step h.d h.r.lt hF
  have d2 := dis_step (fun x h1 h2 => d1 x h2 h1) hk.lt hG
  have hs := h.bel.size
  have hs1 := ho1.size
  refine ⟨hk.keep ho2 (fun x h1 h2 => d1 x h2 h1), hr, fun x h1 h2 => d2 x h2 h1, fun x hx => ?_, fun x hx => ?_, (h.bel.trans (ho1.below _ hs h.fge)).trans (ho2.below _ (by omega) h.gge)⟩
  · rcases hF x hx with h1 | h1
    · exact h.fge x h1
    · omega
  · rcases hG x hx with h1 | h1
    · exact h.gge x h1
    · omega
theorem Inv.rput {W w w1 : World} {b rb most : Nat} {L : List (Ky.K × Int)} {F G : Nat → Prop} (h : Inv W w b rb most L F G) (ho1 : Only F w w1) : RF G w1 rb most L := h.r.keep ho1 h.d

set_option maxHeartbeats 1600000 in
set_option maxRecDepth 100000 in
theorem plays_in (W : World) (mo : Int) (hmo : -9223372036854775808 ≤ mo ∧ mo ≤ 9223372036854775807) (v : Value) (l : List Act) (hl : RdS W 4 v l.length (l.flatMap actc)) (hlen : l.length ≤ 200) :
    Calls Try.prog 6 #[.int .i64 mo, v] W (IsT W) := by
  obtain ⟨ad, cap, rfl, hcap, hcm⟩ := hl.val
  have Hl := Lib.hid hl
  have g200 : (l.length : Int) ≤ 200 := by omega
  clear hl hcm
  go_enter Try.func6, Try.ntmps6
  go_wp2_with fail
  refine (awake _).mono ?_
  rintro e w0 ⟨rfl, o0⟩
  go_wp2_with fail
  refine (new_kf w0 mo _ rfl).mono ?_
  rintro e w1 ⟨b, F0, rfl, k1, f1, o1⟩
  go_wp2_with fail
  refine (rnew_rf w1 mo).mono ?_
  rintro e w2 ⟨rb, G0, rfl, r2, g2, o2⟩
  generalize (min (max mo 1) 128).toNat = most at k1 r2
  have inv0 : Hid (Inv W w2 b rb most [] F0 G0) := Lib.hid (by
    have z0 := o0.size
    have z1 := o1.size
    refine ⟨k1.quiet o2, r2, fun x h1 h2 => ?_, fun x hx => ?_, fun x hx => ?_, (o0.trans (o1.below _ z0 (fun x h => h.elim))).trans (o2.below _ (by omega) (fun x h => h.elim))⟩
    · have := k1.lt x h1; have := g2 x h2; omega
    · have := f1 x hx; omega
    · have := g2 x hx; omega)
  clear k1 f1 o1 o0 r2 g2 o2
  go_wp2_with fail
  go_loopw [7] (fun i wr => ∃ n : Nat, n ≤ l.length ∧ i = .int .i64 n ∧ Hid (∃ L F G, Inv W wr b rb most L F G)) (fun i _ => l.length - (intOf i).toNat)
  case atStart => exact ⟨0, Nat.zero_le _, rfl, Lib.hid ⟨_, _, _, inv0.out⟩⟩
  case round =>
    clear inv0
    obtain ⟨n, hn, rfl, hinv⟩ := hrel
    by_cases hlt : n < l.length
    · obtain ⟨L, F, G, inv⟩ := hinv.out
      obtain ⟨sb, so, cap', hsl, _, _, hsb, hcs⟩ := (Hl.out.only (Only.of_below inv.bel (fun x => W.heap.size ≤ x)) (fun g hg h => by have := Hl.out.form (by omega); obtain ⟨b', _, _, he, _, _, hb', _⟩ := this; rw [he] at hg; simp [Value.ownBlock] at hg; omega)).form (by omega)
      cases hsl
      have q0 := hcs (n * 4 + 0) (.int .i64 l[n].op) (by rw [KyW.flat_get actc 4 (fun _ => rfl) l n hlt 0 (by omega)]; rfl)
      have q1 := hcs (n * 4 + 1) (.int .i64 l[n].id) (by rw [KyW.flat_get actc 4 (fun _ => rfl) l n hlt 1 (by omega)]; rfl)
      have q2 := hcs (n * 4 + 2) (.string l[n].name) (by rw [KyW.flat_get actc 4 (fun _ => rfl) l n hlt 2 (by omega)]; rfl)
      have q3 := hcs (n * 4 + 3) (.string l[n].key) (by rw [KyW.flat_get actc 4 (fun _ => rfl) l n hlt 3 (by omega)]; rfl)
      simp only [Nat.add_zero] at q0
      rw [← Nat.add_assoc] at q1 q2 q3
      have hL0 : (0 : Int) ≤ (n : Int) := by omega
      have hL1 : (n : Int) < (l.length : Int) := by omega
      generalize l[n] = a at q0 q1 q2 q3
      obtain ⟨op, id, k1, k2⟩ := a
      simp only at q0 q1 q2 q3
      have Hi := Lib.hid inv
      clear hcs inv hinv
      have hsW := Hi.out.bel.size
      obtain ⟨xb, hxb⟩ : ∃ xb, Hid (xb = wr.heap.size) := ⟨_, Lib.hid rfl⟩
      have nF := Lib.hid (show ¬ F xb from fun h => by have := Hi.out.k.lt xb h; have := hxb.out; omega)
      have nG := Lib.hid (show ¬ G xb from fun h => by have := Hi.out.r.lt xb h; have := hxb.out; omega)
      have Hbox : Hid (∀ op : Int, Only (fun _ => False) wr (wr.alloc (.cells #[.int .i64 op, .int .i64 id, .string k1, .string k2] 43)) ∧ CellsAt (wr.alloc (.cells #[.int .i64 op, .int .i64 id, .string k1, .string k2] 43)) xb 0 [.int .i64 op, .int .i64 id, .string k1, .string k2]) :=
        Lib.hid (fun op => ⟨(Only.refl _ wr).alloc _, fun j u hj => by rw [hxb.out, Nat.zero_add, World.cell?_alloc_at _ _ _ _ rfl]; simpa using hj⟩)
      by_cases hop : op = 0
      · subst hop
        have hb := Hbox.out 0
        have Inv1 := Lib.hid (Hi.out.quiet hb.1)
        have c1 := hb.2 1 _ rfl
        have c2 := hb.2 2 _ rfl
        have c3 := hb.2 3 _ rfl
        simp only [Nat.zero_add] at c1 c2 c3
        obtain ⟨r1, r2, L', hP⟩ : ∃ r1 r2 L', Ky.put most L (k1, k2) id = (r1, r2, L') := ⟨_, _, _, rfl⟩
        have C1 := Lib.hid (put_kf F _ b most L Inv1.out.k k1 k2 id r1 r2 L' hP)
        have HP := Lib.hid hP
        clear hP
        clear hb Hbox
        go_wp2_with fail
        refine (C1.out).mono ?_
        rintro e w5 ⟨rfl, F', kF, oF, sF⟩
        have c1 := oF.cellv c1 nF.out
        have c2 := oF.cellv c2 nF.out
        have c3 := oF.cellv c3 nF.out
        have C2 := Lib.hid (rput_rf G w5 rb most L (Inv1.out.rput oF) k1 k2 id r1 r2 L' HP.out)
        rw [hxb.out] at c1 c2 c3
        have KF' := Lib.hid kF
        have OF' := Lib.hid oF
        have SF' := Lib.hid sF
        clear kF oF sF
        go_wp2_with fail
        refine (C2.out).mono ?_
        rintro e w6 ⟨rfl, G', kG, oG, sG⟩
        have Inv2 := Lib.hid (Inv1.out.put KF'.out OF'.out SF'.out kG oG sG)
        have c1' := oG.cellv c1 (fun h => nG.out (by rw [hxb.out]; exact h))
        have c2' := oG.cellv c2 (fun h => nG.out (by rw [hxb.out]; exact h))
        have c3' := oG.cellv c3 (fun h => nG.out (by rw [hxb.out]; exact h))
        clear c1 c2 c3 kG oG sG
        obtain ⟨GV, hGV⟩ : ∃ GV, Hid (Ky.get L' (k1, k2) = GV) := ⟨_, Lib.hid rfl⟩
        have C3 := Lib.hid (get_kf F' w6 b most L' Inv2.out.k k1 k2 GV hGV.out)
        go_wp2_with fail
        refine (C3.out).mono ?_
        rintro e w7 ⟨rfl, o7⟩
        have Inv3 := Lib.hid (Inv2.out.quiet o7)
        have C4 := Lib.hid (rget_rf G' w7 rb most L' Inv3.out.r k1 k2 GV hGV.out)
        have c2 := o7.cellv c2' (fun h => h)
        have c3 := o7.cellv c3' (fun h => h)
        clear o7 c1' c2' c3'
        go_wp2_with fail
        refine (C4.out).mono ?_
        rintro e w8 ⟨rfl, o8⟩
        have Inv4 := Lib.hid (Inv3.out.quiet o8)
        clear o8 c2 c3
        have hv1 : (GV.getD 0 != GV.getD 0) = false := by simp
        have hv2 : (GV.isSome != GV.isSome) = false := by simp
        obtain ⟨⟨rsl, hrr, hr2, hr3⟩, hr4⟩ := Inv4.out.r
        obtain ⟨rad, rcap, rfl, _, _⟩ := hrr.rd.val
        have rc1 := hrr.c1
        have C5 := Lib.hid (fun W (h : KF F' W b most L') => len_same F' W b most L' h)
        have hv3 : ((L'.length : Int) != (L'.length : Int)) = false := by simp
        clear hrr hr2 hr3 hr4
        go_wp2_with fail
        go_quiet ((go_at_call 11; exact Calls.quiet_of_same (C5.out _ (Inv4.out.k.quiet ((Only.refl _ w8).drewN _)))))
        go_wp2
        go_roundw
        case rel => exact ⟨n + 1, by omega, by go_num, Lib.hid ⟨L', F', G', Inv4.out.quiet ((Only.refl _ w8).drewN _)⟩⟩
        case measure => simp [intOf]; omega
      · have hop' : (op == 0) = false := by simpa using hop
        have hb := Hbox.out op
        have Inv1 := Lib.hid (Hi.out.quiet hb.1)
        have c2 := hb.2 2 _ rfl
        have c3 := hb.2 3 _ rfl
        simp only [Nat.zero_add] at c2 c3
        rw [hxb.out] at c2 c3
        clear hb Hbox hop
        obtain ⟨GV, hGV⟩ : ∃ GV, Hid (Ky.get L (k1, k2) = GV) := ⟨_, Lib.hid rfl⟩
        have C3 := Lib.hid (get_kf F _ b most L Inv1.out.k k1 k2 GV hGV.out)
        go_wp2_with fail
        refine (C3.out).mono ?_
        rintro e w7 ⟨rfl, o7⟩
        have Inv3 := Lib.hid (Inv1.out.quiet o7)
        have C4 := Lib.hid (rget_rf G w7 rb most L Inv3.out.r k1 k2 GV hGV.out)
        have c2_ := o7.cellv c2 (fun h => h)
        have c3_ := o7.cellv c3 (fun h => h)
        clear o7 c2 c3
        go_wp2_with fail
        refine (C4.out).mono ?_
        rintro e w8 ⟨rfl, o8⟩
        have Inv4 := Lib.hid (Inv3.out.quiet o8)
        clear o8 c2_ c3_
        have hv1 : (GV.getD 0 != GV.getD 0) = false := by simp
        have hv2 : (GV.isSome != GV.isSome) = false := by simp
        obtain ⟨⟨rsl, hrr, hr2, hr3⟩, hr4⟩ := Inv4.out.r
        obtain ⟨rad, rcap, rfl, _, _⟩ := hrr.rd.val
        have rc1 := hrr.c1
        have C5 := Lib.hid (fun W (h : KF F W b most L) => len_same F W b most L h)
        have hv3 : ((L.length : Int) != (L.length : Int)) = false := by simp
        clear hrr hr2 hr3 hr4
        go_wp2_with fail
        go_quiet ((go_at_call 11; exact Calls.quiet_of_same (C5.out _ (Inv4.out.k.quiet ((Only.refl _ w8).drewN _)))))
        go_wp2
        go_roundw
        case rel => exact ⟨n + 1, by omega, by go_num, Lib.hid ⟨L, F, G, Inv4.out.quiet ((Only.refl _ w8).drewN _)⟩⟩
        case measure => simp [intOf]; omega
    · obtain rfl : n = l.length := by omega
      obtain ⟨L, F, G, inv⟩ := hinv.out
      have Hi := Lib.hid inv
      have C1 := Lib.hid (all_kf F wr b most L inv.k)
      have hL128 : L.length ≤ 128 := by obtain ⟨⟨_, _, h1, _⟩, _⟩ := inv.k; exact Nat.le_trans h1.le h1.m2
      clear inv hinv
      go_wp2_with fail
      refine (C1.out).mono ?_
      rintro e w5 ⟨v5, rfl, hv5, o5, _⟩
      have Inv5 := Lib.hid (Hi.out.quiet o5)
      obtain ⟨⟨rsl, hrr, hr2, hr3⟩, hr4⟩ := Inv5.out.r
      obtain ⟨rad, rcap, rfl, hrc, _⟩ := hrr.rd.val
      obtain ⟨vad, vcap, rfl, hvc, _⟩ := hv5.slAt.val
      have rc1 := hrr.c1
      have hvl := Lib.hid hv5.slAt
      have hrl := Lib.hid hrr.rd
      have hv3 : ((L.length : Int) != (L.length : Int)) = false := by simp
      clear hrr hr2 hr3 hr4 hv5 o5
      go_wp2_with fail
      go_loopw [18] (fun i wx => ∃ j : Nat, j ≤ L.length ∧ i = .int .i64 j ∧ Hid (Only (fun _ => False) w5 wx)) (fun i _ => L.length - (intOf i).toNat)
      case atStart => exact ⟨0, Nat.zero_le _, rfl, Lib.hid (Only.refl _ _)⟩
      case round =>
        obtain ⟨wo, rfl⟩ : ∃ wo : World, wo = wr := ⟨_, rfl⟩
        obtain ⟨j, hj, rfl, honly⟩ := hrel
        by_cases hjl : j < L.length
        · obtain ⟨sb, so, cap', hsl, _, _, hsb, hcs⟩ := (hvl.out.only honly.out (fun _ _ h => h)).form (by omega)
          cases hsl
          obtain ⟨rsb, rso, rcap', hrsl, _, _, hrsb, hrcs⟩ := (hrl.out.only honly.out (fun _ _ h => h)).form (by omega)
          cases hrsl
          have q0 := hcs (j * 3 + 0) (.string L[j].1.1) (by rw [KyW.flat_get ent 3 (fun _ => rfl) _ j hjl 0 (by omega)]; rfl)
          have q1 := hcs (j * 3 + 1) (.string L[j].1.2) (by rw [KyW.flat_get ent 3 (fun _ => rfl) _ j hjl 1 (by omega)]; rfl)
          have q2 := hcs (j * 3 + 2) (.int .i64 L[j].2) (by rw [KyW.flat_get ent 3 (fun _ => rfl) _ j hjl 2 (by omega)]; rfl)
          have s0 := hrcs (j * 3 + 0) (.string L[j].1.1) (by rw [KyW.flat_get ent 3 (fun _ => rfl) _ j hjl 0 (by omega)]; rfl)
          have s1 := hrcs (j * 3 + 1) (.string L[j].1.2) (by rw [KyW.flat_get ent 3 (fun _ => rfl) _ j hjl 1 (by omega)]; rfl)
          have s2 := hrcs (j * 3 + 2) (.int .i64 L[j].2) (by rw [KyW.flat_get ent 3 (fun _ => rfl) _ j hjl 2 (by omega)]; rfl)
          simp only [Nat.add_zero] at q0 s0
          rw [← Nat.add_assoc] at q1 q2 s1 s2
          have rc := honly.out.cellv rc1 (fun h => h)
          have hL0 : (0 : Int) ≤ (j : Int) := by omega
          have hL1 : (j : Int) < (L.length : Int) := by omega
          generalize L[j] = p at q0 q1 q2 s0 s1 s2
          obtain ⟨⟨x1, x2⟩, y⟩ := p
          simp only at q0 q1 q2 s0 s1 s2
          have t3 : (y != y) = false := by simp
          clear hcs hrcs
          go_wp2_with fail
          go_quiet (fail)
          go_wp2
          go_roundw
          case rel => exact ⟨j + 1, by omega, by go_num, Lib.hid (honly.out.drewN _)⟩
          case measure => simp [intOf]; omega
        · obtain rfl : j = L.length := by omega
          go_wp2
          go_ret
          exact ⟨rfl, Inv5.out.bel.trans (honly.out.below _ Inv5.out.bel.size (fun x h => h.elim))⟩

end Go.Proofs.Ytgcmklheifjciaa.KyL
