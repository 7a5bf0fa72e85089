/- EngineKnown: what its parts begin and end with (printed by a program of our own). -/
import Derived.Test.YtlomlkoimmpemaaGreatDoorEkEnv
namespace Go.Proofs.YtlomlkoimmpemaaGreatDoor.EngineKnownRun
open Go Go.RowKit Am EkEnv
set_option linter.unusedVariables false
set_option maxRecDepth 100000
end Go.Proofs.YtlomlkoimmpemaaGreatDoor.EngineKnownRun
namespace Go.Proofs.YtlomlkoimmpemaaGreatDoor.Am
open Go.Proofs.YtlomlkoimmpemaaGreatDoor.EngineKnownRun
open Go Go.RowKit Am EkEnv
set_option linter.unusedVariables false
set_option maxRecDepth 100000
abbrev AV.n (z : Int) : AV := .int .i64 z
end Go.Proofs.YtlomlkoimmpemaaGreatDoor.Am
namespace Go.Proofs.YtlomlkoimmpemaaGreatDoor.EngineKnownRun
open Go Go.RowKit Am EkEnv
set_option linter.unusedVariables false
set_option maxRecDepth 100000
def memo1 : Memo := ⟨7, [],
 [], 11,
 .bool true,
 [], 646⟩
def memo2 : Memo := ⟨12, [.ptr 647 0],
 [(646, .map [⟨.str [119, 45, 48, 48, 48, 48, 48, 48, 48, 48, 48, 48, 48, 48], .ptr 710 0, 0⟩, ⟨.str [115, 110, 97, 112], .ptr 1561 0, 2⟩] 3),
 (647, .cells 0 78 0 [.n 65536, .map 646, .bool false, .n 0, .slice0]),
 (648, .cells 0 69 0 [.ptr 647 0, .n 512, .slice 713 0 1 1 false 2, .slice 1679 0 5 5 false 2, .n 0, .n 5]),
 (649, .map [⟨.str [100], .str [97], 0⟩] 1),
 (650, .map [⟨.agg [.str [100], .str [107]], .n 1, 0⟩] 1),
 (651, .cells 0 243 0 [.n 128, .map 650, .slice 1330 0 1 1 false 2]),
 (652, .cells 0 126 0 [.n 0, .slice 969 0 1 1 false 1, .map 649, .slice 1327 0 1 1 false 5, .ptr 651 0]),
 (653, .cells 0 40 0 [.ptr 648 0, .ptr 652 0, .n 1, .bool false]),
 (670, .bytes 0 5 0 [9, 1]),
 (710, .cells 0 82 0 [.slice 1677 0 102 102 false 1, .n 102]),
 (713, .cells 0 160 0 [.n 0, .n 102]),
 (862, .bytes 0 5 0 [1, 1, 100, 1, 97]),
 (969, .cells 0 9 0 [.str [100]]),
 (1166, .bytes 0 5 0 [2, 1, 1, 100, 1, 107]),
 (1327, .cells 0 139 0 [.slice 1706 0 1 1 false 6, .n 1, .slice 1709 0 1 1 false 4, .slice0, .str [100]]),
 (1330, .cells 0 191 0 [.str [100], .str [107]]),
 (1331, .cells 0 29 0 [.n 0, .n 1, .n 0, .n 0, .n 0, .str []]),
 (1414, .bytes 0 5 0 [3, 1, 0, 1]),
 (1484, .cells 0 29 0 [.n 0, .n 1, .n 0, .n 1, .n 1, .str [97]]),
 (1561, .cells 0 82 0 [.slice 1562 0 26 26 false 1, .n 26]),
 (1562, .bytes 0 5 0 [8, 0, 1, 1, 100, 1, 97, 1, 1, 100, 0, 2, 1, 20, 0, 0, 1, 1, 100, 1, 107, 1, 33, 2, 144, 22]),
 (1638, .bytes 0 5 0 [4, 1, 0, 1, 0]),
 (1677, .bytes 0 5 1 [2, 0, 0, 0, 0, 0, 0, 0, 0, 16, 0, 0, 29, 0, 141, 0, 9, 1, 5, 0, 0, 0, 1, 0, 0, 0, 0, 16, 0, 0, 223, 0, 139, 2, 1, 1, 100, 1, 97, 6, 0, 0, 0, 2, 0, 0, 0, 0, 16, 0, 0, 237, 0, 216, 2, 2, 1, 1, 100, 1, 107, 4, 0, 0, 0, 3, 0, 0, 0, 0, 16, 0, 0, 29, 0, 244, 0, 3, 1, 0, 1, 5, 0, 0, 0, 4, 0, 0, 0, 0, 16, 0, 0, 32, 0, 52, 1, 4, 1, 0, 1, 0]),
 (1679, .cells 0 92 1 [.int .u64 17592186044416, .slice 670 0 2 2 false 1, .int .u64 17592186044417, .slice 862 0 5 5 false 1, .int .u64 17592186044418, .slice 1166 0 6 6 false 1, .int .u64 17592186044419, .slice 1414 0 4 4 false 1, .int .u64 17592186044420, .slice 1638 0 5 5 false 1]),
 (1706, .cells 0 147 0 [.str [97], .slice0, .n 0, .n 10, .n 1, .str []]),
 (1709, .cells 0 224 0 [.n 3, .n 1, .n 0, .str []]),
 (1712, .cells 0 29 0 [.n 0, .n 1, .n 0, .n 0, .n 0, .str []]),
 (1716, .cells 0 29 0 [.n 11, .n 0, .n 0, .n 0, .n 0, .str []])], 1717,
 .tuple [.ptr 1772 0, .n 0],
 [(646, .map [⟨.str [119, 45, 48, 48, 48, 48, 48, 48, 48, 48, 48, 48, 48, 48], .ptr 710 0, 0⟩, ⟨.str [115, 110, 97, 112], .ptr 1561 0, 2⟩] 3),
 (647, .cells 0 78 0 [.n 65536, .map 646, .bool false, .n 0, .slice0]),
 (648, .cells 0 69 0 [.ptr 647 0, .n 512, .slice 713 0 1 1 false 2, .slice 1679 0 5 5 false 2, .n 0, .n 5]),
 (649, .map [⟨.str [100], .str [97], 0⟩] 1),
 (650, .map [⟨.agg [.str [100], .str [107]], .n 1, 0⟩] 1),
 (651, .cells 0 243 0 [.n 128, .map 650, .slice 1330 0 1 1 false 2]),
 (652, .cells 0 126 0 [.n 0, .slice 969 0 1 1 false 1, .map 649, .slice 1327 0 1 1 false 5, .ptr 651 0]),
 (653, .cells 0 40 0 [.ptr 648 0, .ptr 652 0, .n 1, .bool false]),
 (670, .bytes 0 5 0 [9, 1]),
 (710, .cells 0 82 0 [.slice 2337 0 120 120 false 1, .n 120]),
 (713, .cells 0 160 0 [.n 0, .n 102]),
 (862, .bytes 0 5 0 [1, 1, 100, 1, 97]),
 (969, .cells 0 9 0 [.str [100]]),
 (1166, .bytes 0 5 0 [2, 1, 1, 100, 1, 107]),
 (1327, .cells 0 139 0 [.slice 1706 0 1 1 false 6, .n 1, .slice 1709 0 1 1 false 4, .slice0, .str [100]]),
 (1330, .cells 0 191 0 [.str [100], .str [107]]),
 (1331, .cells 0 29 0 [.n 0, .n 1, .n 0, .n 0, .n 0, .str []]),
 (1414, .bytes 0 5 0 [3, 1, 0, 1]),
 (1484, .cells 0 29 0 [.n 0, .n 1, .n 0, .n 1, .n 1, .str [97]]),
 (1561, .cells 0 82 0 [.slice 1562 0 26 26 false 1, .n 26]),
 (1562, .bytes 0 5 0 [8, 0, 1, 1, 100, 1, 97, 1, 1, 100, 0, 2, 1, 20, 0, 0, 1, 1, 100, 1, 107, 1, 33, 2, 144, 22]),
 (1638, .bytes 0 5 0 [4, 1, 0, 1, 0]),
 (1679, .cells 0 92 1 [.int .u64 17592186044416, .slice 670 0 2 2 false 1, .int .u64 17592186044417, .slice 862 0 5 5 false 1, .int .u64 17592186044418, .slice 1166 0 6 6 false 1, .int .u64 17592186044419, .slice 1414 0 4 4 false 1, .int .u64 17592186044420, .slice 1638 0 5 5 false 1]),
 (1706, .cells 0 147 0 [.str [97], .slice0, .n 0, .n 10, .n 1, .str []]),
 (1709, .cells 0 224 0 [.n 3, .n 1, .n 0, .str []]),
 (1712, .cells 0 29 0 [.n 0, .n 1, .n 0, .n 0, .n 0, .str []]),
 (1716, .cells 0 29 0 [.n 11, .n 0, .n 0, .n 0, .n 0, .str []]),
 (1717, .cells 0 69 0 [.ptr 647 0, .n 512, .slice 1763 0 1 1 false 2, .slice 2339 0 6 6 false 2, .n 0, .n 6]),
 (1734, .bytes 0 5 0 [9, 1]),
 (1740, .bytes 0 5 0 [1, 1, 100, 1, 97]),
 (1746, .bytes 0 5 0 [2, 1, 1, 100, 1, 107]),
 (1752, .bytes 0 5 0 [3, 1, 0, 1]),
 (1758, .bytes 0 5 0 [4, 1, 0, 1, 0]),
 (1763, .cells 0 160 0 [.n 0, .n 120]),
 (1772, .cells 0 40 0 [.ptr 1717 0, .ptr 1849 0, .n 2, .bool false]),
 (1846, .map [⟨.str [100], .str [97], 0⟩] 1),
 (1847, .map [⟨.agg [.str [100], .str [107]], .n 1, 0⟩] 1),
 (1848, .cells 0 243 0 [.n 128, .map 1847, .slice 2155 0 1 1 false 2]),
 (1849, .cells 0 126 0 [.n 0, .slice 1990 0 1 1 false 1, .map 1846, .slice 2151 0 1 1 false 5, .ptr 1848 0]),
 (1990, .cells 0 9 0 [.str [100]]),
 (2151, .cells 0 139 0 [.slice 2276 0 1 1 false 6, .n 1, .slice 2279 0 1 1 false 4, .slice0, .str [100]]),
 (2155, .cells 0 191 0 [.str [100], .str [107]]),
 (2276, .cells 0 147 0 [.str [97], .slice0, .n 0, .n 10, .n 1, .str []]),
 (2279, .cells 0 224 0 [.n 3, .n 1, .n 0, .str []]),
 (2298, .bytes 0 5 0 [9, 2]),
 (2337, .bytes 0 5 1 [2, 0, 0, 0, 0, 0, 0, 0, 0, 16, 0, 0, 29, 0, 141, 0, 9, 1, 5, 0, 0, 0, 1, 0, 0, 0, 0, 16, 0, 0, 223, 0, 139, 2, 1, 1, 100, 1, 97, 6, 0, 0, 0, 2, 0, 0, 0, 0, 16, 0, 0, 237, 0, 216, 2, 2, 1, 1, 100, 1, 107, 4, 0, 0, 0, 3, 0, 0, 0, 0, 16, 0, 0, 29, 0, 244, 0, 3, 1, 0, 1, 5, 0, 0, 0, 4, 0, 0, 0, 0, 16, 0, 0, 32, 0, 52, 1, 4, 1, 0, 1, 0, 2, 0, 0, 0, 5, 0, 0, 0, 0, 32, 0, 0, 51, 0, 16, 1, 9, 2]),
 (2339, .cells 0 92 1 [.int .u64 17592186044416, .slice 1734 0 2 2 false 1, .int .u64 17592186044417, .slice 1740 0 5 5 false 1, .int .u64 17592186044418, .slice 1746 0 6 6 false 1, .int .u64 17592186044419, .slice 1752 0 4 4 false 1, .int .u64 17592186044420, .slice 1758 0 5 5 false 1, .int .u64 35184372088837, .slice 2298 0 2 2 false 1])], 2353⟩
noncomputable section
def pm1 (g : Nat) : Option Prim := bif Nat.beq g 7 then some (memoP begin0 (fun args H => F.runF Tryz.prog ext prim0 60000 7 args H) [memo1]) else prim0 g
def pm2 (g : Nat) : Option Prim := bif Nat.beq g 7 then some (memoP begin0 (fun args H => F.runF Tryz.prog ext prim0 60000 7 args H) [memo1]) else bif Nat.beq g 12 then some (memoP begin0 (fun args H => F.runF Tryz.prog ext prim0 60000 12 args H) [memo2]) else prim0 g
def pm0 (g : Nat) : Option Prim := prim0 g
end
theorem pm0OK : PrimOK Tryz.prog pm0 := prim0OK
theorem pm1OK (h1 : MemoOK Tryz.prog begin0 memo1) : PrimOK Tryz.prog pm1 := by
  intro fid p h args H v H' hp
  unfold pm1 at h
  cases hq : Nat.beq fid 7 with
  | true =>
    rw [hq] at h
    cases h
    obtain rfl := Nat.eq_of_beq_eq_true hq
    refine memoP_ok (run_one mixed namesOK extOK prim0OK Tryz.func7 rfl) _ ?_ args H v H' hp
    intro m hm
    simp only [List.mem_cons, List.mem_nil_iff, or_false] at hm
    rcases hm with rfl
    · exact ⟨rfl, h1⟩
  | false =>
    rw [hq] at h
    clear hq
    exact prim0OK fid p h args H v H' hp
theorem pm2OK (h1 : MemoOK Tryz.prog begin0 memo1) (h2 : MemoOK Tryz.prog begin0 memo2) : PrimOK Tryz.prog pm2 := by
  intro fid p h args H v H' hp
  unfold pm2 at h
  cases hq : Nat.beq fid 7 with
  | true =>
    rw [hq] at h
    cases h
    obtain rfl := Nat.eq_of_beq_eq_true hq
    refine memoP_ok (run_one mixed namesOK extOK prim0OK Tryz.func7 rfl) _ ?_ args H v H' hp
    intro m hm
    simp only [List.mem_cons, List.mem_nil_iff, or_false] at hm
    rcases hm with rfl
    · exact ⟨rfl, h1⟩
  | false =>
    rw [hq] at h
    clear hq
    cases hq : Nat.beq fid 12 with
    | true =>
      rw [hq] at h
      cases h
      obtain rfl := Nat.eq_of_beq_eq_true hq
      refine memoP_ok (run_one mixed namesOK extOK prim0OK Tryz.func12 rfl) _ ?_ args H v H' hp
      intro m hm
      simp only [List.mem_cons, List.mem_nil_iff, or_false] at hm
      rcases hm with rfl
      · exact ⟨rfl, h2⟩
    | false =>
      rw [hq] at h
      clear hq
      exact prim0OK fid p h args H v H' hp
end Go.Proofs.YtlomlkoimmpemaaGreatDoor.EngineKnownRun
