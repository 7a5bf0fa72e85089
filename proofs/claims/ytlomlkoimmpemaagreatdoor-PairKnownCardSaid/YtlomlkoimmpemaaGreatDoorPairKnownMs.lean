/- PairKnown: what its parts begin and end with (printed by a program of our own). -/
import Derived.Test.YtlomlkoimmpemaaGreatDoorEkEnv
namespace Go.Proofs.YtlomlkoimmpemaaGreatDoor.PairKnownRun
open Go Go.RowKit Am EkEnv
set_option linter.unusedVariables false
set_option maxRecDepth 100000
end Go.Proofs.YtlomlkoimmpemaaGreatDoor.PairKnownRun
namespace Go.Proofs.YtlomlkoimmpemaaGreatDoor.Am
open Go.Proofs.YtlomlkoimmpemaaGreatDoor.PairKnownRun
open Go Go.RowKit Am EkEnv
set_option linter.unusedVariables false
set_option maxRecDepth 100000
abbrev AV.n (z : Int) : AV := .int .i64 z
end Go.Proofs.YtlomlkoimmpemaaGreatDoor.Am
namespace Go.Proofs.YtlomlkoimmpemaaGreatDoor.PairKnownRun
open Go Go.RowKit Am EkEnv
set_option linter.unusedVariables false
set_option maxRecDepth 100000
def memo1 : Memo := ⟨16, [],
 [], 11,
 .bool true,
 [], 441⟩
def memo2 : Memo := ⟨19, [.ptr 448 0, .n 8, .n 0, .n 0],
 [(445, .cells 0 56 0 [.n 0, .n (-1), .bool false, .n 0]),
 (446, .cells 0 199 0 [.slice 445 0 1 1 true 4]),
 (447, .cells 0 202 0 [.slice0]),
 (448, .cells 0 112 0 [.ptr 450 0, .ptr 455 0, .ptr 453 0, .ptr 458 0, .ptr 446 0, .ptr 447 0, .n 12, .n 0, .n 0, .n 0, .n 0, .str [], .slice0]),
 (449, .map [] 0),
 (450, .cells 0 78 0 [.n 131072, .map 449, .bool false, .n 0, .slice0]),
 (451, .cells 0 69 0 [.ptr 450 0, .n 512, .slice0, .slice0, .n 0, .n 0]),
 (453, .cells 0 208 0 [.ptr 451 0, .n 0, .n 0, .bool false, .bool false, .ptr0, .n 0, .n 0, .n 0, .n 0, .n 0, .slice0]),
 (454, .map [] 0),
 (455, .cells 0 78 0 [.n 131072, .map 454, .bool false, .n 0, .slice0]),
 (456, .cells 0 69 0 [.ptr 455 0, .n 512, .slice0, .slice0, .n 0, .n 0]),
 (458, .cells 0 208 0 [.ptr 456 0, .n 1, .n 0, .bool false, .bool false, .ptr0, .n 0, .n 0, .n 0, .n 0, .n 0, .slice0]),
 (469, .cells 0 29 0 [.n 12, .n 0, .n 0, .n 0, .n 0, .str []])], 480,
 .n 0,
 [(446, .cells 0 199 0 [.slice 491 0 2 2 false 4]),
 (447, .cells 0 202 0 [.slice0]),
 (448, .cells 0 112 0 [.ptr 450 0, .ptr 455 0, .ptr 453 0, .ptr 458 0, .ptr 446 0, .ptr 447 0, .n 12, .n 0, .n 0, .n 0, .n 0, .str [], .slice0]),
 (449, .map [⟨.str [111, 117, 114, 115], .ptr 495 0, 1⟩, ⟨.str [119, 45, 48, 48, 48, 48, 48, 48, 48, 48, 48, 48, 48, 48], .ptr 557 0, 2⟩] 3),
 (450, .cells 0 78 0 [.n 131072, .map 449, .bool false, .n 0, .slice0]),
 (451, .cells 0 69 0 [.ptr 450 0, .n 512, .slice 560 0 1 1 false 2, .slice 562 0 1 1 false 2, .n 0, .n 1]),
 (453, .cells 0 208 0 [.ptr 451 0, .n 0, .n 1, .bool true, .bool false, .ptr 500 0, .n 0, .n 1, .n 1, .n 0, .n 0, .slice0]),
 (454, .map [] 0),
 (455, .cells 0 78 0 [.n 131072, .map 454, .bool false, .n 0, .slice0]),
 (456, .cells 0 69 0 [.ptr 455 0, .n 512, .slice0, .slice0, .n 0, .n 0]),
 (458, .cells 0 208 0 [.ptr 456 0, .n 1, .n 0, .bool false, .bool false, .ptr0, .n 0, .n 0, .n 0, .n 0, .n 0, .slice0]),
 (469, .cells 0 29 0 [.n 12, .n 0, .n 0, .n 0, .n 0, .str []]),
 (491, .cells 0 56 0 [.n 0, .n (-1), .bool false, .n 0, .n 1, .n 0, .bool false, .n 0]),
 (495, .cells 0 82 0 [.slice 496 0 1 1 false 1, .n 1]),
 (496, .bytes 0 5 0 [1]),
 (497, .map [] 0),
 (498, .map [] 0),
 (499, .cells 0 243 0 [.n 128, .map 498, .slice0]),
 (500, .cells 0 126 0 [.n 0, .slice0, .map 497, .slice0, .ptr 499 0]),
 (517, .bytes 0 5 0 [9, 1]),
 (557, .cells 0 82 0 [.slice 558 0 18 18 false 1, .n 18]),
 (558, .bytes 0 5 0 [2, 0, 0, 0, 0, 0, 0, 0, 0, 16, 0, 0, 29, 0, 141, 0, 9, 1]),
 (560, .cells 0 160 0 [.n 0, .n 18]),
 (562, .cells 0 92 0 [.int .u64 17592186044416, .slice 517 0 2 2 false 1])], 571⟩
def memo3 : Memo := ⟨20, [.ptr 448 0, .n 0, .agg [.n 1, .n 0, .n 0, .n 0, .n 0, .n 0, .str [100], .str [], .str [97]]],
 [(446, .cells 0 199 0 [.slice 491 0 2 2 false 4]),
 (447, .cells 0 202 0 [.slice0]),
 (448, .cells 0 112 0 [.ptr 450 0, .ptr 455 0, .ptr 453 0, .ptr 458 0, .ptr 446 0, .ptr 447 0, .n 12, .n 0, .n 0, .n 0, .n 0, .str [], .slice0]),
 (449, .map [⟨.str [111, 117, 114, 115], .ptr 495 0, 1⟩, ⟨.str [119, 45, 48, 48, 48, 48, 48, 48, 48, 48, 48, 48, 48, 48], .ptr 557 0, 2⟩] 3),
 (450, .cells 0 78 0 [.n 131072, .map 449, .bool false, .n 0, .slice0]),
 (451, .cells 0 69 0 [.ptr 450 0, .n 512, .slice 560 0 1 1 false 2, .slice 562 0 1 1 false 2, .n 0, .n 1]),
 (453, .cells 0 208 0 [.ptr 451 0, .n 0, .n 1, .bool true, .bool false, .ptr 500 0, .n 0, .n 1, .n 1, .n 0, .n 0, .slice0]),
 (454, .map [] 0),
 (455, .cells 0 78 0 [.n 131072, .map 454, .bool false, .n 0, .slice0]),
 (456, .cells 0 69 0 [.ptr 455 0, .n 512, .slice0, .slice0, .n 0, .n 0]),
 (458, .cells 0 208 0 [.ptr 456 0, .n 1, .n 0, .bool false, .bool false, .ptr0, .n 0, .n 0, .n 0, .n 0, .n 0, .slice0]),
 (469, .cells 0 29 0 [.n 12, .n 0, .n 0, .n 0, .n 0, .str []]),
 (491, .cells 0 56 0 [.n 0, .n (-1), .bool false, .n 0, .n 1, .n 0, .bool false, .n 0]),
 (495, .cells 0 82 0 [.slice 496 0 1 1 false 1, .n 1]),
 (496, .bytes 0 5 0 [1]),
 (497, .map [] 0),
 (498, .map [] 0),
 (499, .cells 0 243 0 [.n 128, .map 498, .slice0]),
 (500, .cells 0 126 0 [.n 0, .slice0, .map 497, .slice0, .ptr 499 0]),
 (517, .bytes 0 5 0 [9, 1]),
 (557, .cells 0 82 0 [.slice 558 0 18 18 false 1, .n 18]),
 (558, .bytes 0 5 0 [2, 0, 0, 0, 0, 0, 0, 0, 0, 16, 0, 0, 29, 0, 141, 0, 9, 1]),
 (560, .cells 0 160 0 [.n 0, .n 18]),
 (562, .cells 0 92 0 [.int .u64 17592186044416, .slice 517 0 2 2 false 1]),
 (577, .bytes 0 5 0 [9, 1]),
 (579, .cells 0 92 0 [.int .u64 17592186044416, .slice 577 0 2 2 false 1])], 580,
 .n 0,
 [(446, .cells 0 199 0 [.slice 491 0 2 2 false 4]),
 (447, .cells 0 202 0 [.slice0]),
 (448, .cells 0 112 0 [.ptr 450 0, .ptr 455 0, .ptr 453 0, .ptr 458 0, .ptr 446 0, .ptr 447 0, .n 0, .n 0, .n 0, .n 0, .n 0, .str [], .slice0]),
 (449, .map [⟨.str [111, 117, 114, 115], .ptr 495 0, 1⟩, ⟨.str [119, 45, 48, 48, 48, 48, 48, 48, 48, 48, 48, 48, 48, 48], .ptr 557 0, 2⟩] 3),
 (450, .cells 0 78 0 [.n 131072, .map 449, .bool false, .n 0, .slice0]),
 (451, .cells 0 69 0 [.ptr 450 0, .n 512, .slice 560 0 1 1 false 2, .slice 758 0 2 2 false 2, .n 0, .n 2]),
 (453, .cells 0 208 0 [.ptr 451 0, .n 0, .n 1, .bool true, .bool false, .ptr 500 0, .n 0, .n 1, .n 1, .n 0, .n 1, .slice 865 0 1 1 false 8]),
 (454, .map [] 0),
 (455, .cells 0 78 0 [.n 131072, .map 454, .bool false, .n 0, .slice0]),
 (456, .cells 0 69 0 [.ptr 455 0, .n 512, .slice0, .slice0, .n 0, .n 0]),
 (458, .cells 0 208 0 [.ptr 456 0, .n 1, .n 0, .bool false, .bool false, .ptr0, .n 0, .n 0, .n 0, .n 0, .n 0, .slice0]),
 (469, .cells 0 29 0 [.n 12, .n 0, .n 0, .n 0, .n 0, .str []]),
 (491, .cells 0 56 0 [.n 0, .n (-1), .bool false, .n 0, .n 1, .n 0, .bool false, .n 0]),
 (495, .cells 0 82 0 [.slice 496 0 1 1 false 1, .n 1]),
 (496, .bytes 0 5 0 [1]),
 (497, .map [⟨.str [100], .str [97], 0⟩] 1),
 (498, .map [] 0),
 (499, .cells 0 243 0 [.n 128, .map 498, .slice0]),
 (500, .cells 0 126 0 [.n 0, .slice 824 0 1 1 false 1, .map 497, .slice0, .ptr 499 0]),
 (517, .bytes 0 5 0 [9, 1]),
 (557, .cells 0 82 0 [.slice 756 0 39 39 false 1, .n 39]),
 (560, .cells 0 160 0 [.n 0, .n 39]),
 (577, .bytes 0 5 0 [9, 1]),
 (579, .cells 0 92 0 [.int .u64 17592186044416, .slice 577 0 2 2 false 1]),
 (717, .bytes 0 5 0 [1, 1, 100, 1, 97]),
 (756, .bytes 0 5 1 [2, 0, 0, 0, 0, 0, 0, 0, 0, 16, 0, 0, 29, 0, 141, 0, 9, 1, 5, 0, 0, 0, 1, 0, 0, 0, 0, 16, 0, 0, 223, 0, 139, 2, 1, 1, 100, 1, 97]),
 (758, .cells 0 92 1 [.int .u64 17592186044416, .slice 517 0 2 2 false 1, .int .u64 17592186044417, .slice 717 0 5 5 false 1]),
 (824, .cells 0 9 0 [.str [100]]),
 (865, .cells 0 274 0 [.n 1, .n 0, .n 0, .n 0, .n 0, .n 0, .str [], .n 1])], 868⟩
def memo4 : Memo := ⟨19, [.ptr 448 0, .n 4, .n 0, .n 0],
 [(446, .cells 0 199 0 [.slice 491 0 2 2 false 4]),
 (447, .cells 0 202 0 [.slice 975 0 1 1 false 1]),
 (448, .cells 0 112 0 [.ptr 450 0, .ptr 455 0, .ptr 453 0, .ptr 458 0, .ptr 446 0, .ptr 447 0, .n 0, .n 0, .n 0, .n 0, .n 0, .str [], .slice0]),
 (449, .map [⟨.str [111, 117, 114, 115], .ptr 495 0, 1⟩, ⟨.str [119, 45, 48, 48, 48, 48, 48, 48, 48, 48, 48, 48, 48, 48], .ptr 557 0, 2⟩] 3),
 (450, .cells 0 78 0 [.n 131072, .map 449, .bool false, .n 0, .slice0]),
 (451, .cells 0 69 0 [.ptr 450 0, .n 512, .slice 560 0 1 1 false 2, .slice 758 0 2 2 false 2, .n 0, .n 2]),
 (453, .cells 0 208 0 [.ptr 451 0, .n 0, .n 1, .bool true, .bool false, .ptr 500 0, .n 0, .n 1, .n 1, .n 0, .n 1, .slice 865 0 1 1 false 8]),
 (454, .map [] 0),
 (455, .cells 0 78 0 [.n 131072, .map 454, .bool false, .n 0, .slice0]),
 (456, .cells 0 69 0 [.ptr 455 0, .n 512, .slice0, .slice0, .n 0, .n 0]),
 (458, .cells 0 208 0 [.ptr 456 0, .n 1, .n 0, .bool false, .bool false, .ptr0, .n 0, .n 0, .n 0, .n 0, .n 0, .slice0]),
 (469, .cells 0 29 0 [.n 12, .n 0, .n 0, .n 0, .n 0, .str []]),
 (491, .cells 0 56 0 [.n 0, .n (-1), .bool false, .n 0, .n 1, .n 0, .bool false, .n 0]),
 (495, .cells 0 82 0 [.slice 496 0 1 1 false 1, .n 1]),
 (496, .bytes 0 5 0 [1]),
 (497, .map [⟨.str [100], .str [97], 0⟩] 1),
 (498, .map [] 0),
 (499, .cells 0 243 0 [.n 128, .map 498, .slice0]),
 (500, .cells 0 126 0 [.n 0, .slice 824 0 1 1 false 1, .map 497, .slice0, .ptr 499 0]),
 (517, .bytes 0 5 0 [9, 1]),
 (557, .cells 0 82 0 [.slice 756 0 39 39 false 1, .n 39]),
 (560, .cells 0 160 0 [.n 0, .n 39]),
 (577, .bytes 0 5 0 [9, 1]),
 (579, .cells 0 92 0 [.int .u64 17592186044416, .slice 577 0 2 2 false 1]),
 (717, .bytes 0 5 0 [1, 1, 100, 1, 97]),
 (756, .bytes 0 5 1 [2, 0, 0, 0, 0, 0, 0, 0, 0, 16, 0, 0, 29, 0, 141, 0, 9, 1, 5, 0, 0, 0, 1, 0, 0, 0, 0, 16, 0, 0, 223, 0, 139, 2, 1, 1, 100, 1, 97]),
 (758, .cells 0 92 1 [.int .u64 17592186044416, .slice 517 0 2 2 false 1, .int .u64 17592186044417, .slice 717 0 5 5 false 1]),
 (824, .cells 0 9 0 [.str [100]]),
 (865, .cells 0 274 0 [.n 1, .n 0, .n 0, .n 0, .n 0, .n 0, .str [], .n 1]),
 (973, .bytes 0 5 1 [1, 0, 1, 1, 1, 1, 129, 128, 128, 128, 128, 128, 4, 5, 1, 1, 100, 1, 97, 0, 0]),
 (975, .cells 0 80 0 [.slice 973 0 21 21 false 1])], 977,
 .n 0,
 [(446, .cells 0 199 0 [.slice 491 0 2 2 false 4]),
 (447, .cells 0 202 0 [.slice 1080 0 2 2 false 1]),
 (448, .cells 0 112 0 [.ptr 450 0, .ptr 455 0, .ptr 453 0, .ptr 458 0, .ptr 446 0, .ptr 447 0, .n 0, .n 0, .n 0, .n 0, .n 0, .str [], .slice0]),
 (449, .map [⟨.str [111, 117, 114, 115], .ptr 495 0, 1⟩, ⟨.str [119, 45, 48, 48, 48, 48, 48, 48, 48, 48, 48, 48, 48, 48], .ptr 557 0, 2⟩] 3),
 (450, .cells 0 78 0 [.n 131072, .map 449, .bool false, .n 0, .slice0]),
 (451, .cells 0 69 0 [.ptr 450 0, .n 512, .slice 560 0 1 1 false 2, .slice 758 0 2 2 false 2, .n 0, .n 2]),
 (453, .cells 0 208 0 [.ptr 451 0, .n 0, .n 1, .bool true, .bool false, .ptr 500 0, .n 0, .n 1, .n 1, .n 0, .n 1, .slice 865 0 1 1 false 8]),
 (454, .map [] 0),
 (455, .cells 0 78 0 [.n 131072, .map 454, .bool false, .n 0, .slice0]),
 (456, .cells 0 69 0 [.ptr 455 0, .n 512, .slice0, .slice0, .n 0, .n 0]),
 (458, .cells 0 208 0 [.ptr 456 0, .n 1, .n 0, .bool false, .bool false, .ptr0, .n 0, .n 0, .n 0, .n 0, .n 0, .slice0]),
 (469, .cells 0 29 0 [.n 12, .n 0, .n 0, .n 0, .n 0, .str []]),
 (491, .cells 0 56 0 [.n 0, .n (-1), .bool false, .n 0, .n 1, .n 0, .bool false, .n 0]),
 (495, .cells 0 82 0 [.slice 496 0 1 1 false 1, .n 1]),
 (496, .bytes 0 5 0 [1]),
 (497, .map [⟨.str [100], .str [97], 0⟩] 1),
 (498, .map [] 0),
 (499, .cells 0 243 0 [.n 128, .map 498, .slice0]),
 (500, .cells 0 126 0 [.n 0, .slice 824 0 1 1 false 1, .map 497, .slice0, .ptr 499 0]),
 (517, .bytes 0 5 0 [9, 1]),
 (557, .cells 0 82 0 [.slice 756 0 39 39 false 1, .n 39]),
 (560, .cells 0 160 0 [.n 0, .n 39]),
 (577, .bytes 0 5 0 [9, 1]),
 (579, .cells 0 92 0 [.int .u64 17592186044416, .slice 577 0 2 2 false 1]),
 (717, .bytes 0 5 0 [1, 1, 100, 1, 97]),
 (756, .bytes 0 5 1 [2, 0, 0, 0, 0, 0, 0, 0, 0, 16, 0, 0, 29, 0, 141, 0, 9, 1, 5, 0, 0, 0, 1, 0, 0, 0, 0, 16, 0, 0, 223, 0, 139, 2, 1, 1, 100, 1, 97]),
 (758, .cells 0 92 1 [.int .u64 17592186044416, .slice 517 0 2 2 false 1, .int .u64 17592186044417, .slice 717 0 5 5 false 1]),
 (824, .cells 0 9 0 [.str [100]]),
 (865, .cells 0 274 0 [.n 1, .n 0, .n 0, .n 0, .n 0, .n 0, .str [], .n 1]),
 (973, .bytes 0 5 1 [1, 0, 1, 1, 1, 1, 129, 128, 128, 128, 128, 128, 4, 5, 1, 1, 100, 1, 97, 0, 0]),
 (1078, .bytes 0 5 1 [1, 0, 1, 1, 1, 1, 129, 128, 128, 128, 128, 128, 4, 5, 1, 1, 100, 1, 97, 0, 0]),
 (1080, .cells 0 80 1 [.slice 973 0 21 21 false 1, .slice 1078 0 21 21 false 1])], 1082⟩
def memo5 : Memo := ⟨19, [.ptr 448 0, .n 2, .n 0, .n 0],
 [(446, .cells 0 199 0 [.slice 491 0 2 2 false 4]),
 (447, .cells 0 202 0 [.slice 1080 0 2 2 false 1]),
 (448, .cells 0 112 0 [.ptr 450 0, .ptr 455 0, .ptr 453 0, .ptr 458 0, .ptr 446 0, .ptr 447 0, .n 0, .n 0, .n 0, .n 0, .n 0, .str [], .slice0]),
 (449, .map [⟨.str [111, 117, 114, 115], .ptr 495 0, 1⟩, ⟨.str [119, 45, 48, 48, 48, 48, 48, 48, 48, 48, 48, 48, 48, 48], .ptr 557 0, 2⟩] 3),
 (450, .cells 0 78 0 [.n 131072, .map 449, .bool false, .n 0, .slice0]),
 (451, .cells 0 69 0 [.ptr 450 0, .n 512, .slice 560 0 1 1 false 2, .slice 758 0 2 2 false 2, .n 0, .n 2]),
 (453, .cells 0 208 0 [.ptr 451 0, .n 0, .n 1, .bool true, .bool false, .ptr 500 0, .n 0, .n 1, .n 1, .n 0, .n 1, .slice 865 0 1 1 false 8]),
 (454, .map [] 0),
 (455, .cells 0 78 0 [.n 131072, .map 454, .bool false, .n 0, .slice0]),
 (456, .cells 0 69 0 [.ptr 455 0, .n 512, .slice0, .slice0, .n 0, .n 0]),
 (458, .cells 0 208 0 [.ptr 456 0, .n 1, .n 0, .bool false, .bool false, .ptr0, .n 0, .n 0, .n 0, .n 0, .n 0, .slice0]),
 (469, .cells 0 29 0 [.n 12, .n 0, .n 0, .n 0, .n 0, .str []]),
 (491, .cells 0 56 0 [.n 0, .n (-1), .bool false, .n 0, .n 1, .n 0, .bool false, .n 0]),
 (495, .cells 0 82 0 [.slice 496 0 1 1 false 1, .n 1]),
 (496, .bytes 0 5 0 [1]),
 (497, .map [⟨.str [100], .str [97], 0⟩] 1),
 (498, .map [] 0),
 (499, .cells 0 243 0 [.n 128, .map 498, .slice0]),
 (500, .cells 0 126 0 [.n 0, .slice 824 0 1 1 false 1, .map 497, .slice0, .ptr 499 0]),
 (517, .bytes 0 5 0 [9, 1]),
 (557, .cells 0 82 0 [.slice 756 0 39 39 false 1, .n 39]),
 (560, .cells 0 160 0 [.n 0, .n 39]),
 (577, .bytes 0 5 0 [9, 1]),
 (579, .cells 0 92 0 [.int .u64 17592186044416, .slice 577 0 2 2 false 1]),
 (717, .bytes 0 5 0 [1, 1, 100, 1, 97]),
 (756, .bytes 0 5 1 [2, 0, 0, 0, 0, 0, 0, 0, 0, 16, 0, 0, 29, 0, 141, 0, 9, 1, 5, 0, 0, 0, 1, 0, 0, 0, 0, 16, 0, 0, 223, 0, 139, 2, 1, 1, 100, 1, 97]),
 (758, .cells 0 92 1 [.int .u64 17592186044416, .slice 517 0 2 2 false 1, .int .u64 17592186044417, .slice 717 0 5 5 false 1]),
 (824, .cells 0 9 0 [.str [100]]),
 (865, .cells 0 274 0 [.n 1, .n 0, .n 0, .n 0, .n 0, .n 0, .str [], .n 1]),
 (973, .bytes 0 5 1 [1, 0, 1, 1, 1, 1, 129, 128, 128, 128, 128, 128, 4, 5, 1, 1, 100, 1, 97, 0, 0]),
 (1078, .bytes 0 5 1 [1, 0, 1, 1, 1, 1, 129, 128, 128, 128, 128, 128, 4, 5, 1, 1, 100, 1, 97, 0, 0]),
 (1080, .cells 0 80 1 [.slice 973 0 21 21 false 1, .slice 1078 0 21 21 false 1])], 1082,
 .n 0,
 [(446, .cells 0 199 0 [.slice 491 0 2 2 false 4]),
 (447, .cells 0 202 0 [.slice 1080 0 2 2 false 1]),
 (448, .cells 0 112 0 [.ptr 450 0, .ptr 455 0, .ptr 453 0, .ptr 458 0, .ptr 446 0, .ptr 447 0, .n 0, .n 0, .n 0, .n 0, .n 0, .str [], .slice0]),
 (449, .map [⟨.str [111, 117, 114, 115], .ptr 495 0, 1⟩, ⟨.str [119, 45, 48, 48, 48, 48, 48, 48, 48, 48, 48, 48, 48, 48], .ptr 557 0, 2⟩] 3),
 (450, .cells 0 78 0 [.n 131072, .map 449, .bool false, .n 0, .slice0]),
 (451, .cells 0 69 0 [.ptr 450 0, .n 512, .slice 560 0 1 1 false 2, .slice 758 0 2 2 false 2, .n 0, .n 2]),
 (453, .cells 0 208 0 [.ptr 451 0, .n 0, .n 1, .bool true, .bool false, .ptr 500 0, .n 0, .n 1, .n 1, .n 0, .n 1, .slice 865 0 1 1 false 8]),
 (454, .map [⟨.str [111, 117, 114, 115], .ptr 1152 0, 1⟩] 2),
 (455, .cells 0 78 0 [.n 131072, .map 454, .bool false, .n 0, .slice0]),
 (456, .cells 0 69 0 [.ptr 455 0, .n 512, .slice0, .slice0, .n 0, .n 0]),
 (458, .cells 0 208 0 [.ptr 456 0, .n 1, .n 1, .bool false, .bool false, .ptr0, .n 0, .n 0, .n 0, .n 0, .n 0, .slice0]),
 (469, .cells 0 29 0 [.n 12, .n 0, .n 0, .n 0, .n 0, .str []]),
 (491, .cells 0 56 0 [.n 0, .n (-1), .bool false, .n 0, .n 1, .n 0, .bool false, .n 0]),
 (495, .cells 0 82 0 [.slice 496 0 1 1 false 1, .n 1]),
 (496, .bytes 0 5 0 [1]),
 (497, .map [⟨.str [100], .str [97], 0⟩] 1),
 (498, .map [] 0),
 (499, .cells 0 243 0 [.n 128, .map 498, .slice0]),
 (500, .cells 0 126 0 [.n 0, .slice 824 0 1 1 false 1, .map 497, .slice0, .ptr 499 0]),
 (517, .bytes 0 5 0 [9, 1]),
 (557, .cells 0 82 0 [.slice 756 0 39 39 false 1, .n 39]),
 (560, .cells 0 160 0 [.n 0, .n 39]),
 (577, .bytes 0 5 0 [9, 1]),
 (579, .cells 0 92 0 [.int .u64 17592186044416, .slice 577 0 2 2 false 1]),
 (717, .bytes 0 5 0 [1, 1, 100, 1, 97]),
 (756, .bytes 0 5 1 [2, 0, 0, 0, 0, 0, 0, 0, 0, 16, 0, 0, 29, 0, 141, 0, 9, 1, 5, 0, 0, 0, 1, 0, 0, 0, 0, 16, 0, 0, 223, 0, 139, 2, 1, 1, 100, 1, 97]),
 (758, .cells 0 92 1 [.int .u64 17592186044416, .slice 517 0 2 2 false 1, .int .u64 17592186044417, .slice 717 0 5 5 false 1]),
 (824, .cells 0 9 0 [.str [100]]),
 (865, .cells 0 274 0 [.n 1, .n 0, .n 0, .n 0, .n 0, .n 0, .str [], .n 1]),
 (1078, .bytes 0 5 1 [1, 0, 1, 1, 1, 1, 129, 128, 128, 128, 128, 128, 4, 5, 1, 1, 100, 1, 97, 0, 0]),
 (1080, .cells 0 80 1 [.slice 1078 0 21 21 false 1, .slice 1187 0 8 8 false 1]),
 (1152, .cells 0 82 0 [.slice 1153 0 1 1 false 1, .n 1]),
 (1153, .bytes 0 5 0 [1]),
 (1187, .bytes 0 5 1 [3, 1, 1, 0, 0, 0, 0, 0])], 1190⟩
def memo6 : Memo := ⟨19, [.ptr 448 0, .n 2, .n 0, .n 0],
 [(446, .cells 0 199 0 [.slice 491 0 2 2 false 4]),
 (447, .cells 0 202 0 [.slice 1080 0 2 2 false 1]),
 (448, .cells 0 112 0 [.ptr 450 0, .ptr 455 0, .ptr 453 0, .ptr 458 0, .ptr 446 0, .ptr 447 0, .n 0, .n 0, .n 0, .n 0, .n 0, .str [], .slice0]),
 (449, .map [⟨.str [111, 117, 114, 115], .ptr 495 0, 1⟩, ⟨.str [119, 45, 48, 48, 48, 48, 48, 48, 48, 48, 48, 48, 48, 48], .ptr 557 0, 2⟩] 3),
 (450, .cells 0 78 0 [.n 131072, .map 449, .bool false, .n 0, .slice0]),
 (451, .cells 0 69 0 [.ptr 450 0, .n 512, .slice 560 0 1 1 false 2, .slice 758 0 2 2 false 2, .n 0, .n 2]),
 (453, .cells 0 208 0 [.ptr 451 0, .n 0, .n 1, .bool true, .bool false, .ptr 500 0, .n 0, .n 1, .n 1, .n 0, .n 1, .slice 865 0 1 1 false 8]),
 (454, .map [⟨.str [111, 117, 114, 115], .ptr 1152 0, 1⟩] 2),
 (455, .cells 0 78 0 [.n 131072, .map 454, .bool false, .n 0, .slice0]),
 (456, .cells 0 69 0 [.ptr 455 0, .n 512, .slice0, .slice0, .n 0, .n 0]),
 (458, .cells 0 208 0 [.ptr 456 0, .n 1, .n 1, .bool false, .bool false, .ptr0, .n 0, .n 0, .n 0, .n 0, .n 0, .slice0]),
 (469, .cells 0 29 0 [.n 12, .n 0, .n 0, .n 0, .n 0, .str []]),
 (491, .cells 0 56 0 [.n 0, .n (-1), .bool false, .n 0, .n 1, .n 0, .bool false, .n 0]),
 (495, .cells 0 82 0 [.slice 496 0 1 1 false 1, .n 1]),
 (496, .bytes 0 5 0 [1]),
 (497, .map [⟨.str [100], .str [97], 0⟩] 1),
 (498, .map [] 0),
 (499, .cells 0 243 0 [.n 128, .map 498, .slice0]),
 (500, .cells 0 126 0 [.n 0, .slice 824 0 1 1 false 1, .map 497, .slice0, .ptr 499 0]),
 (517, .bytes 0 5 0 [9, 1]),
 (557, .cells 0 82 0 [.slice 756 0 39 39 false 1, .n 39]),
 (560, .cells 0 160 0 [.n 0, .n 39]),
 (577, .bytes 0 5 0 [9, 1]),
 (579, .cells 0 92 0 [.int .u64 17592186044416, .slice 577 0 2 2 false 1]),
 (717, .bytes 0 5 0 [1, 1, 100, 1, 97]),
 (756, .bytes 0 5 1 [2, 0, 0, 0, 0, 0, 0, 0, 0, 16, 0, 0, 29, 0, 141, 0, 9, 1, 5, 0, 0, 0, 1, 0, 0, 0, 0, 16, 0, 0, 223, 0, 139, 2, 1, 1, 100, 1, 97]),
 (758, .cells 0 92 1 [.int .u64 17592186044416, .slice 517 0 2 2 false 1, .int .u64 17592186044417, .slice 717 0 5 5 false 1]),
 (824, .cells 0 9 0 [.str [100]]),
 (865, .cells 0 274 0 [.n 1, .n 0, .n 0, .n 0, .n 0, .n 0, .str [], .n 1]),
 (1078, .bytes 0 5 1 [1, 0, 1, 1, 1, 1, 129, 128, 128, 128, 128, 128, 4, 5, 1, 1, 100, 1, 97, 0, 0]),
 (1080, .cells 0 80 1 [.slice 1078 0 21 21 false 1, .slice 1187 0 8 8 false 1]),
 (1152, .cells 0 82 0 [.slice 1153 0 1 1 false 1, .n 1]),
 (1153, .bytes 0 5 0 [1]),
 (1187, .bytes 0 5 1 [3, 1, 1, 0, 0, 0, 0, 0])], 1190,
 .n 0,
 [(446, .cells 0 199 0 [.slice 491 0 2 2 false 4]),
 (447, .cells 0 202 0 [.slice 1080 0 2 2 false 1]),
 (448, .cells 0 112 0 [.ptr 450 0, .ptr 455 0, .ptr 453 0, .ptr 458 0, .ptr 446 0, .ptr 447 0, .n 0, .n 0, .n 0, .n 0, .n 0, .str [], .slice0]),
 (449, .map [⟨.str [111, 117, 114, 115], .ptr 495 0, 1⟩, ⟨.str [119, 45, 48, 48, 48, 48, 48, 48, 48, 48, 48, 48, 48, 48], .ptr 557 0, 2⟩] 3),
 (450, .cells 0 78 0 [.n 131072, .map 449, .bool false, .n 0, .slice0]),
 (451, .cells 0 69 0 [.ptr 450 0, .n 512, .slice 560 0 1 1 false 2, .slice 758 0 2 2 false 2, .n 0, .n 2]),
 (453, .cells 0 208 0 [.ptr 451 0, .n 0, .n 1, .bool true, .bool false, .ptr 500 0, .n 0, .n 1, .n 1, .n 0, .n 1, .slice 865 0 1 1 false 8]),
 (454, .map [⟨.str [111, 117, 114, 115], .ptr 1152 0, 1⟩] 2),
 (455, .cells 0 78 0 [.n 131072, .map 454, .bool false, .n 0, .slice0]),
 (456, .cells 0 69 0 [.ptr 455 0, .n 512, .slice0, .slice0, .n 0, .n 0]),
 (458, .cells 0 208 0 [.ptr 456 0, .n 1, .n 1, .bool false, .bool false, .ptr0, .n 0, .n 0, .n 0, .n 0, .n 0, .slice0]),
 (469, .cells 0 29 0 [.n 12, .n 0, .n 0, .n 0, .n 0, .str []]),
 (491, .cells 0 56 0 [.n 0, .n (-1), .bool false, .n 0, .n 1, .n 0, .bool false, .n 0]),
 (495, .cells 0 82 0 [.slice 496 0 1 1 false 1, .n 1]),
 (496, .bytes 0 5 0 [1]),
 (497, .map [⟨.str [100], .str [97], 0⟩] 1),
 (498, .map [] 0),
 (499, .cells 0 243 0 [.n 128, .map 498, .slice0]),
 (500, .cells 0 126 0 [.n 0, .slice 824 0 1 1 false 1, .map 497, .slice0, .ptr 499 0]),
 (517, .bytes 0 5 0 [9, 1]),
 (557, .cells 0 82 0 [.slice 756 0 39 39 false 1, .n 39]),
 (560, .cells 0 160 0 [.n 0, .n 39]),
 (577, .bytes 0 5 0 [9, 1]),
 (579, .cells 0 92 0 [.int .u64 17592186044416, .slice 577 0 2 2 false 1]),
 (717, .bytes 0 5 0 [1, 1, 100, 1, 97]),
 (756, .bytes 0 5 1 [2, 0, 0, 0, 0, 0, 0, 0, 0, 16, 0, 0, 29, 0, 141, 0, 9, 1, 5, 0, 0, 0, 1, 0, 0, 0, 0, 16, 0, 0, 223, 0, 139, 2, 1, 1, 100, 1, 97]),
 (758, .cells 0 92 1 [.int .u64 17592186044416, .slice 517 0 2 2 false 1, .int .u64 17592186044417, .slice 717 0 5 5 false 1]),
 (824, .cells 0 9 0 [.str [100]]),
 (865, .cells 0 274 0 [.n 1, .n 0, .n 0, .n 0, .n 0, .n 0, .str [], .n 1]),
 (1080, .cells 0 80 1 [.slice 1187 0 8 8 false 1, .slice 1290 0 8 8 false 1]),
 (1152, .cells 0 82 0 [.slice 1153 0 1 1 false 1, .n 1]),
 (1153, .bytes 0 5 0 [1]),
 (1187, .bytes 0 5 1 [3, 1, 1, 0, 0, 0, 0, 0]),
 (1290, .bytes 0 5 1 [3, 1, 1, 0, 0, 0, 0, 0])], 1293⟩
def memo7 : Memo := ⟨19, [.ptr 448 0, .n 2, .n 0, .n 0],
 [(446, .cells 0 199 0 [.slice 491 0 2 2 false 4]),
 (447, .cells 0 202 0 [.slice 1080 0 2 2 false 1]),
 (448, .cells 0 112 0 [.ptr 450 0, .ptr 455 0, .ptr 453 0, .ptr 458 0, .ptr 446 0, .ptr 447 0, .n 0, .n 0, .n 0, .n 0, .n 0, .str [], .slice0]),
 (449, .map [⟨.str [111, 117, 114, 115], .ptr 495 0, 1⟩, ⟨.str [119, 45, 48, 48, 48, 48, 48, 48, 48, 48, 48, 48, 48, 48], .ptr 557 0, 2⟩] 3),
 (450, .cells 0 78 0 [.n 131072, .map 449, .bool false, .n 0, .slice0]),
 (451, .cells 0 69 0 [.ptr 450 0, .n 512, .slice 560 0 1 1 false 2, .slice 758 0 2 2 false 2, .n 0, .n 2]),
 (453, .cells 0 208 0 [.ptr 451 0, .n 0, .n 1, .bool true, .bool false, .ptr 500 0, .n 0, .n 1, .n 1, .n 0, .n 1, .slice 865 0 1 1 false 8]),
 (454, .map [⟨.str [111, 117, 114, 115], .ptr 1152 0, 1⟩] 2),
 (455, .cells 0 78 0 [.n 131072, .map 454, .bool false, .n 0, .slice0]),
 (456, .cells 0 69 0 [.ptr 455 0, .n 512, .slice0, .slice0, .n 0, .n 0]),
 (458, .cells 0 208 0 [.ptr 456 0, .n 1, .n 1, .bool false, .bool false, .ptr0, .n 0, .n 0, .n 0, .n 0, .n 0, .slice0]),
 (469, .cells 0 29 0 [.n 12, .n 0, .n 0, .n 0, .n 0, .str []]),
 (491, .cells 0 56 0 [.n 0, .n (-1), .bool false, .n 0, .n 1, .n 0, .bool false, .n 0]),
 (495, .cells 0 82 0 [.slice 496 0 1 1 false 1, .n 1]),
 (496, .bytes 0 5 0 [1]),
 (497, .map [⟨.str [100], .str [97], 0⟩] 1),
 (498, .map [] 0),
 (499, .cells 0 243 0 [.n 128, .map 498, .slice0]),
 (500, .cells 0 126 0 [.n 0, .slice 824 0 1 1 false 1, .map 497, .slice0, .ptr 499 0]),
 (517, .bytes 0 5 0 [9, 1]),
 (557, .cells 0 82 0 [.slice 756 0 39 39 false 1, .n 39]),
 (560, .cells 0 160 0 [.n 0, .n 39]),
 (577, .bytes 0 5 0 [9, 1]),
 (579, .cells 0 92 0 [.int .u64 17592186044416, .slice 577 0 2 2 false 1]),
 (717, .bytes 0 5 0 [1, 1, 100, 1, 97]),
 (756, .bytes 0 5 1 [2, 0, 0, 0, 0, 0, 0, 0, 0, 16, 0, 0, 29, 0, 141, 0, 9, 1, 5, 0, 0, 0, 1, 0, 0, 0, 0, 16, 0, 0, 223, 0, 139, 2, 1, 1, 100, 1, 97]),
 (758, .cells 0 92 1 [.int .u64 17592186044416, .slice 517 0 2 2 false 1, .int .u64 17592186044417, .slice 717 0 5 5 false 1]),
 (824, .cells 0 9 0 [.str [100]]),
 (865, .cells 0 274 0 [.n 1, .n 0, .n 0, .n 0, .n 0, .n 0, .str [], .n 1]),
 (1080, .cells 0 80 1 [.slice 1187 0 8 8 false 1, .slice 1290 0 8 8 false 1]),
 (1152, .cells 0 82 0 [.slice 1153 0 1 1 false 1, .n 1]),
 (1153, .bytes 0 5 0 [1]),
 (1187, .bytes 0 5 1 [3, 1, 1, 0, 0, 0, 0, 0]),
 (1290, .bytes 0 5 1 [3, 1, 1, 0, 0, 0, 0, 0])], 1293,
 .n 0,
 [(446, .cells 0 199 0 [.slice 491 0 2 2 false 4]),
 (447, .cells 0 202 0 [.slice 1080 0 1 2 false 1]),
 (448, .cells 0 112 0 [.ptr 450 0, .ptr 455 0, .ptr 453 0, .ptr 458 0, .ptr 446 0, .ptr 447 0, .n 0, .n 0, .n 0, .n 0, .n 0, .str [], .slice0]),
 (449, .map [⟨.str [111, 117, 114, 115], .ptr 495 0, 1⟩, ⟨.str [119, 45, 48, 48, 48, 48, 48, 48, 48, 48, 48, 48, 48, 48], .ptr 557 0, 2⟩] 3),
 (450, .cells 0 78 0 [.n 131072, .map 449, .bool false, .n 0, .slice0]),
 (451, .cells 0 69 0 [.ptr 450 0, .n 512, .slice 560 0 1 1 false 2, .slice 758 0 2 2 false 2, .n 0, .n 2]),
 (453, .cells 0 208 0 [.ptr 451 0, .n 0, .n 1, .bool true, .bool false, .ptr 500 0, .n 0, .n 1, .n 0, .n 0, .n 1, .slice 865 0 1 1 false 8]),
 (454, .map [⟨.str [111, 117, 114, 115], .ptr 1152 0, 1⟩] 2),
 (455, .cells 0 78 0 [.n 131072, .map 454, .bool false, .n 0, .slice0]),
 (456, .cells 0 69 0 [.ptr 455 0, .n 512, .slice0, .slice0, .n 0, .n 0]),
 (458, .cells 0 208 0 [.ptr 456 0, .n 1, .n 1, .bool false, .bool false, .ptr0, .n 0, .n 0, .n 0, .n 0, .n 0, .slice0]),
 (469, .cells 0 29 0 [.n 12, .n 0, .n 0, .n 0, .n 0, .str []]),
 (491, .cells 0 56 0 [.n 0, .n (-1), .bool false, .n 0, .n 1, .n 0, .bool false, .n 0]),
 (495, .cells 0 82 0 [.slice 496 0 1 1 false 1, .n 1]),
 (496, .bytes 0 5 0 [1]),
 (497, .map [⟨.str [100], .str [97], 0⟩] 1),
 (498, .map [] 0),
 (499, .cells 0 243 0 [.n 128, .map 498, .slice0]),
 (500, .cells 0 126 0 [.n 0, .slice 824 0 1 1 false 1, .map 497, .slice0, .ptr 499 0]),
 (517, .bytes 0 5 0 [9, 1]),
 (557, .cells 0 82 0 [.slice 756 0 39 39 false 1, .n 39]),
 (560, .cells 0 160 0 [.n 0, .n 39]),
 (577, .bytes 0 5 0 [9, 1]),
 (579, .cells 0 92 0 [.int .u64 17592186044416, .slice 577 0 2 2 false 1]),
 (717, .bytes 0 5 0 [1, 1, 100, 1, 97]),
 (756, .bytes 0 5 1 [2, 0, 0, 0, 0, 0, 0, 0, 0, 16, 0, 0, 29, 0, 141, 0, 9, 1, 5, 0, 0, 0, 1, 0, 0, 0, 0, 16, 0, 0, 223, 0, 139, 2, 1, 1, 100, 1, 97]),
 (758, .cells 0 92 1 [.int .u64 17592186044416, .slice 517 0 2 2 false 1, .int .u64 17592186044417, .slice 717 0 5 5 false 1]),
 (824, .cells 0 9 0 [.str [100]]),
 (865, .cells 0 274 0 [.n 1, .n 0, .n 0, .n 0, .n 0, .n 0, .str [], .n 1]),
 (1080, .cells 0 80 1 [.slice 1290 0 8 8 false 1, .slice0]),
 (1152, .cells 0 82 0 [.slice 1153 0 1 1 false 1, .n 1]),
 (1153, .bytes 0 5 0 [1]),
 (1290, .bytes 0 5 1 [3, 1, 1, 0, 0, 0, 0, 0])], 1382⟩
def memo8 : Memo := ⟨19, [.ptr 448 0, .n 2, .n 0, .n 0],
 [(446, .cells 0 199 0 [.slice 491 0 2 2 false 4]),
 (447, .cells 0 202 0 [.slice 1080 0 1 2 false 1]),
 (448, .cells 0 112 0 [.ptr 450 0, .ptr 455 0, .ptr 453 0, .ptr 458 0, .ptr 446 0, .ptr 447 0, .n 0, .n 0, .n 0, .n 0, .n 0, .str [], .slice0]),
 (449, .map [⟨.str [111, 117, 114, 115], .ptr 495 0, 1⟩, ⟨.str [119, 45, 48, 48, 48, 48, 48, 48, 48, 48, 48, 48, 48, 48], .ptr 557 0, 2⟩] 3),
 (450, .cells 0 78 0 [.n 131072, .map 449, .bool false, .n 0, .slice0]),
 (451, .cells 0 69 0 [.ptr 450 0, .n 512, .slice 560 0 1 1 false 2, .slice 758 0 2 2 false 2, .n 0, .n 2]),
 (453, .cells 0 208 0 [.ptr 451 0, .n 0, .n 1, .bool true, .bool false, .ptr 500 0, .n 0, .n 1, .n 0, .n 0, .n 1, .slice 865 0 1 1 false 8]),
 (454, .map [⟨.str [111, 117, 114, 115], .ptr 1152 0, 1⟩] 2),
 (455, .cells 0 78 0 [.n 131072, .map 454, .bool false, .n 0, .slice0]),
 (456, .cells 0 69 0 [.ptr 455 0, .n 512, .slice0, .slice0, .n 0, .n 0]),
 (458, .cells 0 208 0 [.ptr 456 0, .n 1, .n 1, .bool false, .bool false, .ptr0, .n 0, .n 0, .n 0, .n 0, .n 0, .slice0]),
 (469, .cells 0 29 0 [.n 12, .n 0, .n 0, .n 0, .n 0, .str []]),
 (491, .cells 0 56 0 [.n 0, .n (-1), .bool false, .n 0, .n 1, .n 0, .bool false, .n 0]),
 (495, .cells 0 82 0 [.slice 496 0 1 1 false 1, .n 1]),
 (496, .bytes 0 5 0 [1]),
 (497, .map [⟨.str [100], .str [97], 0⟩] 1),
 (498, .map [] 0),
 (499, .cells 0 243 0 [.n 128, .map 498, .slice0]),
 (500, .cells 0 126 0 [.n 0, .slice 824 0 1 1 false 1, .map 497, .slice0, .ptr 499 0]),
 (517, .bytes 0 5 0 [9, 1]),
 (557, .cells 0 82 0 [.slice 756 0 39 39 false 1, .n 39]),
 (560, .cells 0 160 0 [.n 0, .n 39]),
 (577, .bytes 0 5 0 [9, 1]),
 (579, .cells 0 92 0 [.int .u64 17592186044416, .slice 577 0 2 2 false 1]),
 (717, .bytes 0 5 0 [1, 1, 100, 1, 97]),
 (756, .bytes 0 5 1 [2, 0, 0, 0, 0, 0, 0, 0, 0, 16, 0, 0, 29, 0, 141, 0, 9, 1, 5, 0, 0, 0, 1, 0, 0, 0, 0, 16, 0, 0, 223, 0, 139, 2, 1, 1, 100, 1, 97]),
 (758, .cells 0 92 1 [.int .u64 17592186044416, .slice 517 0 2 2 false 1, .int .u64 17592186044417, .slice 717 0 5 5 false 1]),
 (824, .cells 0 9 0 [.str [100]]),
 (865, .cells 0 274 0 [.n 1, .n 0, .n 0, .n 0, .n 0, .n 0, .str [], .n 1]),
 (1080, .cells 0 80 1 [.slice 1290 0 8 8 false 1, .slice0]),
 (1152, .cells 0 82 0 [.slice 1153 0 1 1 false 1, .n 1]),
 (1153, .bytes 0 5 0 [1]),
 (1290, .bytes 0 5 1 [3, 1, 1, 0, 0, 0, 0, 0])], 1382,
 .n 0,
 [(446, .cells 0 199 0 [.slice 491 0 2 2 false 4]),
 (447, .cells 0 202 0 [.slice 1080 0 0 2 false 1]),
 (448, .cells 0 112 0 [.ptr 450 0, .ptr 455 0, .ptr 453 0, .ptr 458 0, .ptr 446 0, .ptr 447 0, .n 0, .n 0, .n 0, .n 0, .n 0, .str [], .slice0]),
 (449, .map [⟨.str [111, 117, 114, 115], .ptr 495 0, 1⟩, ⟨.str [119, 45, 48, 48, 48, 48, 48, 48, 48, 48, 48, 48, 48, 48], .ptr 557 0, 2⟩] 3),
 (450, .cells 0 78 0 [.n 131072, .map 449, .bool false, .n 0, .slice0]),
 (451, .cells 0 69 0 [.ptr 450 0, .n 512, .slice 560 0 1 1 false 2, .slice 758 0 2 2 false 2, .n 0, .n 2]),
 (453, .cells 0 208 0 [.ptr 451 0, .n 0, .n 1, .bool true, .bool false, .ptr 500 0, .n 0, .n 1, .n 0, .n 0, .n 1, .slice 865 0 1 1 false 8]),
 (454, .map [⟨.str [111, 117, 114, 115], .ptr 1152 0, 1⟩] 2),
 (455, .cells 0 78 0 [.n 131072, .map 454, .bool false, .n 0, .slice0]),
 (456, .cells 0 69 0 [.ptr 455 0, .n 512, .slice0, .slice0, .n 0, .n 0]),
 (458, .cells 0 208 0 [.ptr 456 0, .n 1, .n 1, .bool false, .bool false, .ptr0, .n 0, .n 0, .n 0, .n 0, .n 0, .slice0]),
 (469, .cells 0 29 0 [.n 12, .n 0, .n 0, .n 0, .n 0, .str []]),
 (491, .cells 0 56 0 [.n 0, .n (-1), .bool false, .n 0, .n 1, .n 0, .bool false, .n 0]),
 (495, .cells 0 82 0 [.slice 496 0 1 1 false 1, .n 1]),
 (496, .bytes 0 5 0 [1]),
 (497, .map [⟨.str [100], .str [97], 0⟩] 1),
 (498, .map [] 0),
 (499, .cells 0 243 0 [.n 128, .map 498, .slice0]),
 (500, .cells 0 126 0 [.n 0, .slice 824 0 1 1 false 1, .map 497, .slice0, .ptr 499 0]),
 (517, .bytes 0 5 0 [9, 1]),
 (557, .cells 0 82 0 [.slice 756 0 39 39 false 1, .n 39]),
 (560, .cells 0 160 0 [.n 0, .n 39]),
 (577, .bytes 0 5 0 [9, 1]),
 (579, .cells 0 92 0 [.int .u64 17592186044416, .slice 577 0 2 2 false 1]),
 (717, .bytes 0 5 0 [1, 1, 100, 1, 97]),
 (756, .bytes 0 5 1 [2, 0, 0, 0, 0, 0, 0, 0, 0, 16, 0, 0, 29, 0, 141, 0, 9, 1, 5, 0, 0, 0, 1, 0, 0, 0, 0, 16, 0, 0, 223, 0, 139, 2, 1, 1, 100, 1, 97]),
 (758, .cells 0 92 1 [.int .u64 17592186044416, .slice 517 0 2 2 false 1, .int .u64 17592186044417, .slice 717 0 5 5 false 1]),
 (824, .cells 0 9 0 [.str [100]]),
 (865, .cells 0 274 0 [.n 1, .n 0, .n 0, .n 0, .n 0, .n 0, .str [], .n 1]),
 (1080, .cells 0 80 1 [.slice0, .slice0]),
 (1152, .cells 0 82 0 [.slice 1153 0 1 1 false 1, .n 1]),
 (1153, .bytes 0 5 0 [1])], 1471⟩
def memo9 : Memo := ⟨19, [.ptr 448 0, .n 2, .n 0, .n 0],
 [(446, .cells 0 199 0 [.slice 491 0 2 2 false 4]),
 (447, .cells 0 202 0 [.slice 1080 0 1 2 false 1]),
 (448, .cells 0 112 0 [.ptr 450 0, .ptr 455 0, .ptr 453 0, .ptr 458 0, .ptr 446 0, .ptr 447 0, .n 0, .n 0, .n 0, .n 0, .n 0, .str [], .slice0]),
 (449, .map [⟨.str [111, 117, 114, 115], .ptr 495 0, 1⟩, ⟨.str [119, 45, 48, 48, 48, 48, 48, 48, 48, 48, 48, 48, 48, 48], .ptr 557 0, 2⟩] 3),
 (450, .cells 0 78 0 [.n 131072, .map 449, .bool false, .n 0, .slice0]),
 (451, .cells 0 69 0 [.ptr 450 0, .n 512, .slice 560 0 1 1 false 2, .slice 758 0 2 2 false 2, .n 0, .n 2]),
 (453, .cells 0 208 0 [.ptr 451 0, .n 0, .n 1, .bool true, .bool false, .ptr 500 0, .n 0, .n 1, .n 0, .n 0, .n 1, .slice 865 0 1 1 false 8]),
 (454, .map [⟨.str [111, 117, 114, 115], .ptr 1152 0, 1⟩] 2),
 (455, .cells 0 78 0 [.n 131072, .map 454, .bool false, .n 0, .slice0]),
 (456, .cells 0 69 0 [.ptr 455 0, .n 512, .slice0, .slice0, .n 0, .n 0]),
 (458, .cells 0 208 0 [.ptr 456 0, .n 1, .n 1, .bool false, .bool false, .ptr0, .n 0, .n 0, .n 0, .n 0, .n 0, .slice0]),
 (469, .cells 0 29 0 [.n 12, .n 0, .n 0, .n 0, .n 0, .str []]),
 (491, .cells 0 56 0 [.n 0, .n (-1), .bool false, .n 0, .n 1, .n 0, .bool false, .n 0]),
 (495, .cells 0 82 0 [.slice 496 0 1 1 false 1, .n 1]),
 (496, .bytes 0 5 0 [1]),
 (497, .map [⟨.str [100], .str [97], 0⟩] 1),
 (498, .map [] 0),
 (499, .cells 0 243 0 [.n 128, .map 498, .slice0]),
 (500, .cells 0 126 0 [.n 0, .slice 824 0 1 1 false 1, .map 497, .slice0, .ptr 499 0]),
 (517, .bytes 0 5 0 [9, 1]),
 (557, .cells 0 82 0 [.slice 756 0 39 39 false 1, .n 39]),
 (560, .cells 0 160 0 [.n 0, .n 39]),
 (577, .bytes 0 5 0 [9, 1]),
 (579, .cells 0 92 0 [.int .u64 17592186044416, .slice 577 0 2 2 false 1]),
 (717, .bytes 0 5 0 [1, 1, 100, 1, 97]),
 (756, .bytes 0 5 1 [2, 0, 0, 0, 0, 0, 0, 0, 0, 16, 0, 0, 29, 0, 141, 0, 9, 1, 5, 0, 0, 0, 1, 0, 0, 0, 0, 16, 0, 0, 223, 0, 139, 2, 1, 1, 100, 1, 97]),
 (758, .cells 0 92 1 [.int .u64 17592186044416, .slice 517 0 2 2 false 1, .int .u64 17592186044417, .slice 717 0 5 5 false 1]),
 (824, .cells 0 9 0 [.str [100]]),
 (865, .cells 0 274 0 [.n 1, .n 0, .n 0, .n 0, .n 0, .n 0, .str [], .n 1]),
 (1080, .cells 0 80 1 [.slice 1603 0 31 31 false 1, .slice0]),
 (1152, .cells 0 82 0 [.slice 1153 0 1 1 false 1, .n 1]),
 (1153, .bytes 0 5 0 [1]),
 (1603, .bytes 0 5 1 [1, 0, 1, 0, 0, 2, 128, 128, 128, 128, 128, 128, 4, 2, 9, 1, 129, 128, 128, 128, 128, 128, 4, 5, 1, 1, 100, 1, 97, 0, 0])], 1606,
 .n 0,
 [(446, .cells 0 199 0 [.slice 491 0 2 2 false 4]),
 (447, .cells 0 202 0 [.slice 1080 0 1 2 false 1]),
 (448, .cells 0 112 0 [.ptr 450 0, .ptr 455 0, .ptr 453 0, .ptr 458 0, .ptr 446 0, .ptr 447 0, .n 0, .n 0, .n 0, .n 0, .n 0, .str [], .slice0]),
 (449, .map [⟨.str [111, 117, 114, 115], .ptr 495 0, 1⟩, ⟨.str [119, 45, 48, 48, 48, 48, 48, 48, 48, 48, 48, 48, 48, 48], .ptr 557 0, 2⟩] 3),
 (450, .cells 0 78 0 [.n 131072, .map 449, .bool false, .n 0, .slice0]),
 (451, .cells 0 69 0 [.ptr 450 0, .n 512, .slice 560 0 1 1 false 2, .slice 758 0 2 2 false 2, .n 0, .n 2]),
 (453, .cells 0 208 0 [.ptr 451 0, .n 0, .n 1, .bool true, .bool false, .ptr 500 0, .n 0, .n 1, .n 0, .n 0, .n 1, .slice 865 0 1 1 false 8]),
 (454, .map [⟨.str [111, 117, 114, 115], .ptr 1152 0, 1⟩, ⟨.str [119, 45, 48, 48, 48, 48, 48, 48, 48, 48, 48, 48, 48, 48], .ptr 1744 0, 2⟩] 3),
 (455, .cells 0 78 0 [.n 131072, .map 454, .bool false, .n 0, .slice0]),
 (456, .cells 0 69 0 [.ptr 455 0, .n 512, .slice 1747 0 1 1 false 2, .slice 1796 0 2 2 false 2, .n 0, .n 2]),
 (458, .cells 0 208 0 [.ptr 456 0, .n 1, .n 1, .bool false, .bool false, .ptr0, .n 0, .n 0, .n 0, .n 0, .n 0, .slice0]),
 (469, .cells 0 29 0 [.n 12, .n 0, .n 0, .n 0, .n 0, .str []]),
 (491, .cells 0 56 0 [.n 0, .n (-1), .bool false, .n 0, .n 1, .n 0, .bool false, .n 0]),
 (495, .cells 0 82 0 [.slice 496 0 1 1 false 1, .n 1]),
 (496, .bytes 0 5 0 [1]),
 (497, .map [⟨.str [100], .str [97], 0⟩] 1),
 (498, .map [] 0),
 (499, .cells 0 243 0 [.n 128, .map 498, .slice0]),
 (500, .cells 0 126 0 [.n 0, .slice 824 0 1 1 false 1, .map 497, .slice0, .ptr 499 0]),
 (517, .bytes 0 5 0 [9, 1]),
 (557, .cells 0 82 0 [.slice 756 0 39 39 false 1, .n 39]),
 (560, .cells 0 160 0 [.n 0, .n 39]),
 (577, .bytes 0 5 0 [9, 1]),
 (579, .cells 0 92 0 [.int .u64 17592186044416, .slice 577 0 2 2 false 1]),
 (717, .bytes 0 5 0 [1, 1, 100, 1, 97]),
 (756, .bytes 0 5 1 [2, 0, 0, 0, 0, 0, 0, 0, 0, 16, 0, 0, 29, 0, 141, 0, 9, 1, 5, 0, 0, 0, 1, 0, 0, 0, 0, 16, 0, 0, 223, 0, 139, 2, 1, 1, 100, 1, 97]),
 (758, .cells 0 92 1 [.int .u64 17592186044416, .slice 517 0 2 2 false 1, .int .u64 17592186044417, .slice 717 0 5 5 false 1]),
 (824, .cells 0 9 0 [.str [100]]),
 (865, .cells 0 274 0 [.n 1, .n 0, .n 0, .n 0, .n 0, .n 0, .str [], .n 1]),
 (1080, .cells 0 80 1 [.slice 1826 0 8 8 false 1, .slice0]),
 (1152, .cells 0 82 0 [.slice 1153 0 1 1 false 1, .n 1]),
 (1153, .bytes 0 5 0 [1]),
 (1704, .bytes 0 5 0 [9, 1]),
 (1744, .cells 0 82 0 [.slice 1794 0 39 39 false 1, .n 39]),
 (1747, .cells 0 160 0 [.n 0, .n 39]),
 (1755, .bytes 0 5 0 [1, 1, 100, 1, 97]),
 (1794, .bytes 0 5 1 [2, 0, 0, 0, 0, 0, 0, 0, 0, 16, 0, 0, 29, 0, 141, 0, 9, 1, 5, 0, 0, 0, 1, 0, 0, 0, 0, 16, 0, 0, 223, 0, 139, 2, 1, 1, 100, 1, 97]),
 (1796, .cells 0 92 1 [.int .u64 17592186044416, .slice 1704 0 2 2 false 1, .int .u64 17592186044417, .slice 1755 0 5 5 false 1]),
 (1826, .bytes 0 5 1 [2, 1, 1, 2, 0, 0, 0, 0])], 1829⟩
def memo10 : Memo := ⟨19, [.ptr 448 0, .n 2, .n 0, .n 0],
 [(446, .cells 0 199 0 [.slice 491 0 2 2 false 4]),
 (447, .cells 0 202 0 [.slice 1080 0 1 2 false 1]),
 (448, .cells 0 112 0 [.ptr 450 0, .ptr 455 0, .ptr 453 0, .ptr 458 0, .ptr 446 0, .ptr 447 0, .n 0, .n 0, .n 0, .n 0, .n 0, .str [], .slice0]),
 (449, .map [⟨.str [111, 117, 114, 115], .ptr 495 0, 1⟩, ⟨.str [119, 45, 48, 48, 48, 48, 48, 48, 48, 48, 48, 48, 48, 48], .ptr 557 0, 2⟩] 3),
 (450, .cells 0 78 0 [.n 131072, .map 449, .bool false, .n 0, .slice0]),
 (451, .cells 0 69 0 [.ptr 450 0, .n 512, .slice 560 0 1 1 false 2, .slice 758 0 2 2 false 2, .n 0, .n 2]),
 (453, .cells 0 208 0 [.ptr 451 0, .n 0, .n 1, .bool true, .bool false, .ptr 500 0, .n 0, .n 1, .n 0, .n 0, .n 1, .slice 865 0 1 1 false 8]),
 (454, .map [⟨.str [111, 117, 114, 115], .ptr 1152 0, 1⟩, ⟨.str [119, 45, 48, 48, 48, 48, 48, 48, 48, 48, 48, 48, 48, 48], .ptr 1744 0, 2⟩] 3),
 (455, .cells 0 78 0 [.n 131072, .map 454, .bool false, .n 0, .slice0]),
 (456, .cells 0 69 0 [.ptr 455 0, .n 512, .slice 1747 0 1 1 false 2, .slice 1796 0 2 2 false 2, .n 0, .n 2]),
 (458, .cells 0 208 0 [.ptr 456 0, .n 1, .n 1, .bool false, .bool false, .ptr0, .n 0, .n 0, .n 0, .n 0, .n 0, .slice0]),
 (469, .cells 0 29 0 [.n 12, .n 0, .n 0, .n 0, .n 0, .str []]),
 (491, .cells 0 56 0 [.n 0, .n (-1), .bool false, .n 0, .n 1, .n 0, .bool false, .n 0]),
 (495, .cells 0 82 0 [.slice 496 0 1 1 false 1, .n 1]),
 (496, .bytes 0 5 0 [1]),
 (497, .map [⟨.str [100], .str [97], 0⟩] 1),
 (498, .map [] 0),
 (499, .cells 0 243 0 [.n 128, .map 498, .slice0]),
 (500, .cells 0 126 0 [.n 0, .slice 824 0 1 1 false 1, .map 497, .slice0, .ptr 499 0]),
 (517, .bytes 0 5 0 [9, 1]),
 (557, .cells 0 82 0 [.slice 756 0 39 39 false 1, .n 39]),
 (560, .cells 0 160 0 [.n 0, .n 39]),
 (577, .bytes 0 5 0 [9, 1]),
 (579, .cells 0 92 0 [.int .u64 17592186044416, .slice 577 0 2 2 false 1]),
 (717, .bytes 0 5 0 [1, 1, 100, 1, 97]),
 (756, .bytes 0 5 1 [2, 0, 0, 0, 0, 0, 0, 0, 0, 16, 0, 0, 29, 0, 141, 0, 9, 1, 5, 0, 0, 0, 1, 0, 0, 0, 0, 16, 0, 0, 223, 0, 139, 2, 1, 1, 100, 1, 97]),
 (758, .cells 0 92 1 [.int .u64 17592186044416, .slice 517 0 2 2 false 1, .int .u64 17592186044417, .slice 717 0 5 5 false 1]),
 (824, .cells 0 9 0 [.str [100]]),
 (865, .cells 0 274 0 [.n 1, .n 0, .n 0, .n 0, .n 0, .n 0, .str [], .n 1]),
 (1080, .cells 0 80 1 [.slice 1826 0 8 8 false 1, .slice0]),
 (1152, .cells 0 82 0 [.slice 1153 0 1 1 false 1, .n 1]),
 (1153, .bytes 0 5 0 [1]),
 (1704, .bytes 0 5 0 [9, 1]),
 (1744, .cells 0 82 0 [.slice 1794 0 39 39 false 1, .n 39]),
 (1747, .cells 0 160 0 [.n 0, .n 39]),
 (1755, .bytes 0 5 0 [1, 1, 100, 1, 97]),
 (1794, .bytes 0 5 1 [2, 0, 0, 0, 0, 0, 0, 0, 0, 16, 0, 0, 29, 0, 141, 0, 9, 1, 5, 0, 0, 0, 1, 0, 0, 0, 0, 16, 0, 0, 223, 0, 139, 2, 1, 1, 100, 1, 97]),
 (1796, .cells 0 92 1 [.int .u64 17592186044416, .slice 1704 0 2 2 false 1, .int .u64 17592186044417, .slice 1755 0 5 5 false 1]),
 (1826, .bytes 0 5 1 [2, 1, 1, 2, 0, 0, 0, 0])], 1829,
 .n 0,
 [(446, .cells 0 199 0 [.slice 491 0 2 2 false 4]),
 (447, .cells 0 202 0 [.slice 1080 0 0 2 false 1]),
 (448, .cells 0 112 0 [.ptr 450 0, .ptr 455 0, .ptr 453 0, .ptr 458 0, .ptr 446 0, .ptr 447 0, .n 0, .n 0, .n 0, .n 0, .n 0, .str [], .slice 1915 0 1 1 false 9]),
 (449, .map [⟨.str [111, 117, 114, 115], .ptr 495 0, 1⟩, ⟨.str [119, 45, 48, 48, 48, 48, 48, 48, 48, 48, 48, 48, 48, 48], .ptr 557 0, 2⟩] 3),
 (450, .cells 0 78 0 [.n 131072, .map 449, .bool false, .n 0, .slice0]),
 (451, .cells 0 69 0 [.ptr 450 0, .n 512, .slice 560 0 1 1 false 2, .slice 758 0 2 2 false 2, .n 0, .n 2]),
 (453, .cells 0 208 0 [.ptr 451 0, .n 0, .n 1, .bool true, .bool false, .ptr 500 0, .n 0, .n 1, .n 2, .n 2, .n 1, .slice 865 8 0 0 false 8]),
 (454, .map [⟨.str [111, 117, 114, 115], .ptr 1152 0, 1⟩, ⟨.str [119, 45, 48, 48, 48, 48, 48, 48, 48, 48, 48, 48, 48, 48], .ptr 1744 0, 2⟩] 3),
 (455, .cells 0 78 0 [.n 131072, .map 454, .bool false, .n 0, .slice0]),
 (456, .cells 0 69 0 [.ptr 455 0, .n 512, .slice 1747 0 1 1 false 2, .slice 1796 0 2 2 false 2, .n 0, .n 2]),
 (458, .cells 0 208 0 [.ptr 456 0, .n 1, .n 1, .bool false, .bool false, .ptr0, .n 0, .n 0, .n 0, .n 0, .n 0, .slice0]),
 (469, .cells 0 29 0 [.n 12, .n 0, .n 0, .n 0, .n 0, .str []]),
 (491, .cells 0 56 0 [.n 0, .n (-1), .bool false, .n 0, .n 1, .n 0, .bool false, .n 0]),
 (495, .cells 0 82 0 [.slice 496 0 1 1 false 1, .n 1]),
 (496, .bytes 0 5 0 [1]),
 (497, .map [⟨.str [100], .str [97], 0⟩] 1),
 (498, .map [] 0),
 (499, .cells 0 243 0 [.n 128, .map 498, .slice0]),
 (500, .cells 0 126 0 [.n 0, .slice 824 0 1 1 false 1, .map 497, .slice0, .ptr 499 0]),
 (517, .bytes 0 5 0 [9, 1]),
 (557, .cells 0 82 0 [.slice 756 0 39 39 false 1, .n 39]),
 (560, .cells 0 160 0 [.n 0, .n 39]),
 (577, .bytes 0 5 0 [9, 1]),
 (579, .cells 0 92 0 [.int .u64 17592186044416, .slice 577 0 2 2 false 1]),
 (717, .bytes 0 5 0 [1, 1, 100, 1, 97]),
 (756, .bytes 0 5 1 [2, 0, 0, 0, 0, 0, 0, 0, 0, 16, 0, 0, 29, 0, 141, 0, 9, 1, 5, 0, 0, 0, 1, 0, 0, 0, 0, 16, 0, 0, 223, 0, 139, 2, 1, 1, 100, 1, 97]),
 (758, .cells 0 92 1 [.int .u64 17592186044416, .slice 517 0 2 2 false 1, .int .u64 17592186044417, .slice 717 0 5 5 false 1]),
 (824, .cells 0 9 0 [.str [100]]),
 (865, .cells 0 274 0 [.n 1, .n 0, .n 0, .n 0, .n 0, .n 0, .str [], .n 1]),
 (1080, .cells 0 80 1 [.slice0, .slice0]),
 (1152, .cells 0 82 0 [.slice 1153 0 1 1 false 1, .n 1]),
 (1153, .bytes 0 5 0 [1]),
 (1704, .bytes 0 5 0 [9, 1]),
 (1744, .cells 0 82 0 [.slice 1794 0 39 39 false 1, .n 39]),
 (1747, .cells 0 160 0 [.n 0, .n 39]),
 (1755, .bytes 0 5 0 [1, 1, 100, 1, 97]),
 (1794, .bytes 0 5 1 [2, 0, 0, 0, 0, 0, 0, 0, 0, 16, 0, 0, 29, 0, 141, 0, 9, 1, 5, 0, 0, 0, 1, 0, 0, 0, 0, 16, 0, 0, 223, 0, 139, 2, 1, 1, 100, 1, 97]),
 (1796, .cells 0 92 1 [.int .u64 17592186044416, .slice 1704 0 2 2 false 1, .int .u64 17592186044417, .slice 1755 0 5 5 false 1]),
 (1915, .cells 0 103 0 [.n 0, .n 1, .n 1, .n 0, .n 0, .n 0, .n 0, .n 0, .str []])], 1916⟩
def memo11 : Memo := ⟨19, [.ptr 448 0, .n 2, .n 0, .n 0],
 [(446, .cells 0 199 0 [.slice 491 0 2 2 false 4]),
 (447, .cells 0 202 0 [.slice 1080 0 1 2 false 1]),
 (448, .cells 0 112 0 [.ptr 450 0, .ptr 455 0, .ptr 453 0, .ptr 458 0, .ptr 446 0, .ptr 447 0, .n 0, .n 0, .n 0, .n 0, .n 0, .str [], .slice 1915 0 1 1 false 9]),
 (449, .map [⟨.str [111, 117, 114, 115], .ptr 495 0, 1⟩, ⟨.str [119, 45, 48, 48, 48, 48, 48, 48, 48, 48, 48, 48, 48, 48], .ptr 557 0, 2⟩] 3),
 (450, .cells 0 78 0 [.n 131072, .map 449, .bool false, .n 0, .slice0]),
 (451, .cells 0 69 0 [.ptr 450 0, .n 512, .slice 560 0 1 1 false 2, .slice 758 0 2 2 false 2, .n 0, .n 2]),
 (453, .cells 0 208 0 [.ptr 451 0, .n 0, .n 1, .bool true, .bool false, .ptr 500 0, .n 0, .n 1, .n 2, .n 2, .n 1, .slice 865 8 0 0 false 8]),
 (454, .map [⟨.str [111, 117, 114, 115], .ptr 1152 0, 1⟩, ⟨.str [119, 45, 48, 48, 48, 48, 48, 48, 48, 48, 48, 48, 48, 48], .ptr 1744 0, 2⟩] 3),
 (455, .cells 0 78 0 [.n 131072, .map 454, .bool false, .n 0, .slice0]),
 (456, .cells 0 69 0 [.ptr 455 0, .n 512, .slice 1747 0 1 1 false 2, .slice 1796 0 2 2 false 2, .n 0, .n 2]),
 (458, .cells 0 208 0 [.ptr 456 0, .n 1, .n 1, .bool false, .bool false, .ptr0, .n 0, .n 0, .n 0, .n 0, .n 0, .slice0]),
 (469, .cells 0 29 0 [.n 12, .n 0, .n 0, .n 0, .n 0, .str []]),
 (491, .cells 0 56 0 [.n 0, .n (-1), .bool false, .n 0, .n 1, .n 0, .bool false, .n 0]),
 (495, .cells 0 82 0 [.slice 496 0 1 1 false 1, .n 1]),
 (496, .bytes 0 5 0 [1]),
 (497, .map [⟨.str [100], .str [97], 0⟩] 1),
 (498, .map [] 0),
 (499, .cells 0 243 0 [.n 128, .map 498, .slice0]),
 (500, .cells 0 126 0 [.n 0, .slice 824 0 1 1 false 1, .map 497, .slice0, .ptr 499 0]),
 (517, .bytes 0 5 0 [9, 1]),
 (557, .cells 0 82 0 [.slice 756 0 39 39 false 1, .n 39]),
 (560, .cells 0 160 0 [.n 0, .n 39]),
 (577, .bytes 0 5 0 [9, 1]),
 (579, .cells 0 92 0 [.int .u64 17592186044416, .slice 577 0 2 2 false 1]),
 (717, .bytes 0 5 0 [1, 1, 100, 1, 97]),
 (756, .bytes 0 5 1 [2, 0, 0, 0, 0, 0, 0, 0, 0, 16, 0, 0, 29, 0, 141, 0, 9, 1, 5, 0, 0, 0, 1, 0, 0, 0, 0, 16, 0, 0, 223, 0, 139, 2, 1, 1, 100, 1, 97]),
 (758, .cells 0 92 1 [.int .u64 17592186044416, .slice 517 0 2 2 false 1, .int .u64 17592186044417, .slice 717 0 5 5 false 1]),
 (824, .cells 0 9 0 [.str [100]]),
 (865, .cells 0 274 0 [.n 1, .n 0, .n 0, .n 0, .n 0, .n 0, .str [], .n 1]),
 (1080, .cells 0 80 1 [.slice 1991 0 8 8 false 1, .slice0]),
 (1152, .cells 0 82 0 [.slice 1153 0 1 1 false 1, .n 1]),
 (1153, .bytes 0 5 0 [1]),
 (1704, .bytes 0 5 0 [9, 1]),
 (1744, .cells 0 82 0 [.slice 1794 0 39 39 false 1, .n 39]),
 (1747, .cells 0 160 0 [.n 0, .n 39]),
 (1755, .bytes 0 5 0 [1, 1, 100, 1, 97]),
 (1794, .bytes 0 5 1 [2, 0, 0, 0, 0, 0, 0, 0, 0, 16, 0, 0, 29, 0, 141, 0, 9, 1, 5, 0, 0, 0, 1, 0, 0, 0, 0, 16, 0, 0, 223, 0, 139, 2, 1, 1, 100, 1, 97]),
 (1796, .cells 0 92 1 [.int .u64 17592186044416, .slice 1704 0 2 2 false 1, .int .u64 17592186044417, .slice 1755 0 5 5 false 1]),
 (1915, .cells 0 103 0 [.n 0, .n 1, .n 1, .n 0, .n 0, .n 0, .n 0, .n 0, .str []]),
 (1991, .bytes 0 5 1 [1, 0, 1, 2, 1, 0, 0, 0])], 1994,
 .n 0,
 [(446, .cells 0 199 0 [.slice 491 0 2 2 false 4]),
 (447, .cells 0 202 0 [.slice 1080 0 1 2 false 1]),
 (448, .cells 0 112 0 [.ptr 450 0, .ptr 455 0, .ptr 453 0, .ptr 458 0, .ptr 446 0, .ptr 447 0, .n 0, .n 0, .n 0, .n 0, .n 0, .str [], .slice 1915 0 1 1 false 9]),
 (449, .map [⟨.str [111, 117, 114, 115], .ptr 495 0, 1⟩, ⟨.str [119, 45, 48, 48, 48, 48, 48, 48, 48, 48, 48, 48, 48, 48], .ptr 557 0, 2⟩] 3),
 (450, .cells 0 78 0 [.n 131072, .map 449, .bool false, .n 0, .slice0]),
 (451, .cells 0 69 0 [.ptr 450 0, .n 512, .slice 560 0 1 1 false 2, .slice 758 0 2 2 false 2, .n 0, .n 2]),
 (453, .cells 0 208 0 [.ptr 451 0, .n 0, .n 1, .bool true, .bool false, .ptr 500 0, .n 0, .n 1, .n 2, .n 2, .n 1, .slice 865 8 0 0 false 8]),
 (454, .map [⟨.str [111, 117, 114, 115], .ptr 1152 0, 1⟩, ⟨.str [119, 45, 48, 48, 48, 48, 48, 48, 48, 48, 48, 48, 48, 48], .ptr 1744 0, 2⟩] 3),
 (455, .cells 0 78 0 [.n 131072, .map 454, .bool false, .n 0, .slice0]),
 (456, .cells 0 69 0 [.ptr 455 0, .n 512, .slice 1747 0 1 1 false 2, .slice 1796 0 2 2 false 2, .n 0, .n 2]),
 (458, .cells 0 208 0 [.ptr 456 0, .n 1, .n 1, .bool false, .bool false, .ptr0, .n 0, .n 0, .n 0, .n 0, .n 0, .slice0]),
 (469, .cells 0 29 0 [.n 12, .n 0, .n 0, .n 0, .n 0, .str []]),
 (491, .cells 0 56 0 [.n 0, .n (-1), .bool false, .n 0, .n 1, .n 0, .bool false, .n 0]),
 (495, .cells 0 82 0 [.slice 496 0 1 1 false 1, .n 1]),
 (496, .bytes 0 5 0 [1]),
 (497, .map [⟨.str [100], .str [97], 0⟩] 1),
 (498, .map [] 0),
 (499, .cells 0 243 0 [.n 128, .map 498, .slice0]),
 (500, .cells 0 126 0 [.n 0, .slice 824 0 1 1 false 1, .map 497, .slice0, .ptr 499 0]),
 (517, .bytes 0 5 0 [9, 1]),
 (557, .cells 0 82 0 [.slice 756 0 39 39 false 1, .n 39]),
 (560, .cells 0 160 0 [.n 0, .n 39]),
 (577, .bytes 0 5 0 [9, 1]),
 (579, .cells 0 92 0 [.int .u64 17592186044416, .slice 577 0 2 2 false 1]),
 (717, .bytes 0 5 0 [1, 1, 100, 1, 97]),
 (756, .bytes 0 5 1 [2, 0, 0, 0, 0, 0, 0, 0, 0, 16, 0, 0, 29, 0, 141, 0, 9, 1, 5, 0, 0, 0, 1, 0, 0, 0, 0, 16, 0, 0, 223, 0, 139, 2, 1, 1, 100, 1, 97]),
 (758, .cells 0 92 1 [.int .u64 17592186044416, .slice 517 0 2 2 false 1, .int .u64 17592186044417, .slice 717 0 5 5 false 1]),
 (824, .cells 0 9 0 [.str [100]]),
 (865, .cells 0 274 0 [.n 1, .n 0, .n 0, .n 0, .n 0, .n 0, .str [], .n 1]),
 (1080, .cells 0 80 1 [.slice 2072 0 8 8 false 1, .slice0]),
 (1152, .cells 0 82 0 [.slice 1153 0 1 1 false 1, .n 1]),
 (1153, .bytes 0 5 0 [1]),
 (1704, .bytes 0 5 0 [9, 1]),
 (1744, .cells 0 82 0 [.slice 1794 0 39 39 false 1, .n 39]),
 (1747, .cells 0 160 0 [.n 0, .n 39]),
 (1755, .bytes 0 5 0 [1, 1, 100, 1, 97]),
 (1794, .bytes 0 5 1 [2, 0, 0, 0, 0, 0, 0, 0, 0, 16, 0, 0, 29, 0, 141, 0, 9, 1, 5, 0, 0, 0, 1, 0, 0, 0, 0, 16, 0, 0, 223, 0, 139, 2, 1, 1, 100, 1, 97]),
 (1796, .cells 0 92 1 [.int .u64 17592186044416, .slice 1704 0 2 2 false 1, .int .u64 17592186044417, .slice 1755 0 5 5 false 1]),
 (1915, .cells 0 103 0 [.n 0, .n 1, .n 1, .n 0, .n 0, .n 0, .n 0, .n 0, .str []]),
 (2072, .bytes 0 5 1 [2, 1, 1, 2, 0, 0, 0, 0])], 2075⟩
def memo12 : Memo := ⟨19, [.ptr 448 0, .n 8, .n 1, .n 0],
 [(446, .cells 0 199 0 [.slice 491 0 2 2 false 4]),
 (447, .cells 0 202 0 [.slice 1080 0 0 2 false 1]),
 (448, .cells 0 112 0 [.ptr 450 0, .ptr 455 0, .ptr 453 0, .ptr 458 0, .ptr 446 0, .ptr 447 0, .n 11, .n 0, .n 0, .n 0, .n 0, .str [], .slice 1915 0 1 1 false 9]),
 (449, .map [⟨.str [111, 117, 114, 115], .ptr 495 0, 1⟩, ⟨.str [119, 45, 48, 48, 48, 48, 48, 48, 48, 48, 48, 48, 48, 48], .ptr 557 0, 2⟩] 3),
 (450, .cells 0 78 0 [.n 131072, .map 449, .bool true, .n 0, .slice0]),
 (451, .cells 0 69 0 [.ptr 450 0, .n 512, .slice 560 0 1 1 false 2, .slice 758 0 2 2 false 2, .n 0, .n 2]),
 (453, .cells 0 208 0 [.ptr 451 0, .n 0, .n 1, .bool true, .bool false, .ptr 500 0, .n 0, .n 1, .n 2, .n 2, .n 1, .slice 865 8 0 0 false 8]),
 (454, .map [⟨.str [111, 117, 114, 115], .ptr 1152 0, 1⟩, ⟨.str [119, 45, 48, 48, 48, 48, 48, 48, 48, 48, 48, 48, 48, 48], .ptr 1744 0, 2⟩] 3),
 (455, .cells 0 78 0 [.n 131072, .map 454, .bool false, .n 0, .slice0]),
 (456, .cells 0 69 0 [.ptr 455 0, .n 512, .slice 1747 0 1 1 false 2, .slice 1796 0 2 2 false 2, .n 0, .n 2]),
 (458, .cells 0 208 0 [.ptr 456 0, .n 1, .n 1, .bool false, .bool false, .ptr0, .n 0, .n 0, .n 0, .n 0, .n 0, .slice0]),
 (469, .cells 0 29 0 [.n 12, .n 0, .n 0, .n 0, .n 0, .str []]),
 (491, .cells 0 56 0 [.n 0, .n (-1), .bool false, .n 0, .n 1, .n 0, .bool false, .n 0]),
 (495, .cells 0 82 0 [.slice 496 0 1 1 false 1, .n 1]),
 (496, .bytes 0 5 0 [1]),
 (497, .map [⟨.str [100], .str [97], 0⟩] 1),
 (498, .map [] 0),
 (499, .cells 0 243 0 [.n 128, .map 498, .slice0]),
 (500, .cells 0 126 0 [.n 0, .slice 824 0 1 1 false 1, .map 497, .slice0, .ptr 499 0]),
 (517, .bytes 0 5 0 [9, 1]),
 (557, .cells 0 82 0 [.slice 756 0 39 39 false 1, .n 39]),
 (560, .cells 0 160 0 [.n 0, .n 39]),
 (577, .bytes 0 5 0 [9, 1]),
 (579, .cells 0 92 0 [.int .u64 17592186044416, .slice 577 0 2 2 false 1]),
 (717, .bytes 0 5 0 [1, 1, 100, 1, 97]),
 (756, .bytes 0 5 1 [2, 0, 0, 0, 0, 0, 0, 0, 0, 16, 0, 0, 29, 0, 141, 0, 9, 1, 5, 0, 0, 0, 1, 0, 0, 0, 0, 16, 0, 0, 223, 0, 139, 2, 1, 1, 100, 1, 97]),
 (758, .cells 0 92 1 [.int .u64 17592186044416, .slice 517 0 2 2 false 1, .int .u64 17592186044417, .slice 717 0 5 5 false 1]),
 (824, .cells 0 9 0 [.str [100]]),
 (865, .cells 0 274 0 [.n 1, .n 0, .n 0, .n 0, .n 0, .n 0, .str [], .n 1]),
 (1080, .cells 0 80 1 [.slice0, .slice0]),
 (1152, .cells 0 82 0 [.slice 1153 0 1 1 false 1, .n 1]),
 (1153, .bytes 0 5 0 [1]),
 (1704, .bytes 0 5 0 [9, 1]),
 (1744, .cells 0 82 0 [.slice 1794 0 39 39 false 1, .n 39]),
 (1747, .cells 0 160 0 [.n 0, .n 39]),
 (1755, .bytes 0 5 0 [1, 1, 100, 1, 97]),
 (1794, .bytes 0 5 1 [2, 0, 0, 0, 0, 0, 0, 0, 0, 16, 0, 0, 29, 0, 141, 0, 9, 1, 5, 0, 0, 0, 1, 0, 0, 0, 0, 16, 0, 0, 223, 0, 139, 2, 1, 1, 100, 1, 97]),
 (1796, .cells 0 92 1 [.int .u64 17592186044416, .slice 1704 0 2 2 false 1, .int .u64 17592186044417, .slice 1755 0 5 5 false 1]),
 (1915, .cells 0 103 0 [.n 0, .n 1, .n 1, .n 0, .n 0, .n 0, .n 0, .n 0, .str []]),
 (3127, .bytes 0 5 0 [9, 1]),
 (3133, .bytes 0 5 0 [1, 1, 100, 1, 97]),
 (3135, .cells 0 92 1 [.int .u64 17592186044416, .slice 3127 0 2 2 false 1, .int .u64 17592186044417, .slice 3133 0 5 5 false 1]),
 (3148, .cells 0 103 0 [.n 0, .n 1, .n 1, .n 0, .n 0, .n 0, .n 0, .n 0, .str []])], 3161,
 .n 0,
 [(446, .cells 0 199 0 [.slice 3172 0 3 3 false 4]),
 (447, .cells 0 202 0 [.slice 1080 0 0 2 false 1]),
 (448, .cells 0 112 0 [.ptr 450 0, .ptr 455 0, .ptr 453 0, .ptr 458 0, .ptr 446 0, .ptr 447 0, .n 11, .n 0, .n 0, .n 0, .n 0, .str [], .slice 1915 0 1 1 false 9]),
 (449, .map [⟨.str [111, 117, 114, 115], .ptr 495 0, 1⟩, ⟨.str [119, 45, 48, 48, 48, 48, 48, 48, 48, 48, 48, 48, 48, 48], .ptr 557 0, 2⟩] 3),
 (450, .cells 0 78 0 [.n 131072, .map 449, .bool true, .n 0, .slice0]),
 (451, .cells 0 69 0 [.ptr 450 0, .n 512, .slice 560 0 1 1 false 2, .slice 758 0 2 2 false 2, .n 0, .n 2]),
 (453, .cells 0 208 0 [.ptr 451 0, .n 0, .n 1, .bool true, .bool false, .ptr 500 0, .n 0, .n 1, .n 2, .n 2, .n 1, .slice 865 8 0 0 false 8]),
 (454, .map [⟨.str [111, 117, 114, 115], .ptr 3176 0, 1⟩, ⟨.str [119, 45, 48, 48, 48, 48, 48, 48, 48, 48, 48, 48, 48, 48], .ptr 1744 0, 2⟩] 4),
 (455, .cells 0 78 0 [.n 131072, .map 454, .bool false, .n 0, .slice0]),
 (456, .cells 0 69 0 [.ptr 455 0, .n 512, .slice 1747 0 1 1 false 2, .slice 3396 0 3 3 false 2, .n 0, .n 3]),
 (458, .cells 0 208 0 [.ptr 456 0, .n 1, .n 2, .bool true, .bool false, .ptr 3228 0, .n 1, .n 2, .n 3, .n 0, .n 0, .slice0]),
 (469, .cells 0 29 0 [.n 12, .n 0, .n 0, .n 0, .n 0, .str []]),
 (495, .cells 0 82 0 [.slice 496 0 1 1 false 1, .n 1]),
 (496, .bytes 0 5 0 [1]),
 (497, .map [⟨.str [100], .str [97], 0⟩] 1),
 (498, .map [] 0),
 (499, .cells 0 243 0 [.n 128, .map 498, .slice0]),
 (500, .cells 0 126 0 [.n 0, .slice 824 0 1 1 false 1, .map 497, .slice0, .ptr 499 0]),
 (517, .bytes 0 5 0 [9, 1]),
 (557, .cells 0 82 0 [.slice 756 0 39 39 false 1, .n 39]),
 (560, .cells 0 160 0 [.n 0, .n 39]),
 (577, .bytes 0 5 0 [9, 1]),
 (579, .cells 0 92 0 [.int .u64 17592186044416, .slice 577 0 2 2 false 1]),
 (717, .bytes 0 5 0 [1, 1, 100, 1, 97]),
 (756, .bytes 0 5 1 [2, 0, 0, 0, 0, 0, 0, 0, 0, 16, 0, 0, 29, 0, 141, 0, 9, 1, 5, 0, 0, 0, 1, 0, 0, 0, 0, 16, 0, 0, 223, 0, 139, 2, 1, 1, 100, 1, 97]),
 (758, .cells 0 92 1 [.int .u64 17592186044416, .slice 517 0 2 2 false 1, .int .u64 17592186044417, .slice 717 0 5 5 false 1]),
 (824, .cells 0 9 0 [.str [100]]),
 (865, .cells 0 274 0 [.n 1, .n 0, .n 0, .n 0, .n 0, .n 0, .str [], .n 1]),
 (1080, .cells 0 80 1 [.slice0, .slice0]),
 (1704, .bytes 0 5 0 [9, 1]),
 (1744, .cells 0 82 0 [.slice 3394 0 57 57 false 1, .n 57]),
 (1747, .cells 0 160 0 [.n 0, .n 57]),
 (1755, .bytes 0 5 0 [1, 1, 100, 1, 97]),
 (1915, .cells 0 103 0 [.n 0, .n 1, .n 1, .n 0, .n 0, .n 0, .n 0, .n 0, .str []]),
 (3127, .bytes 0 5 0 [9, 1]),
 (3133, .bytes 0 5 0 [1, 1, 100, 1, 97]),
 (3135, .cells 0 92 1 [.int .u64 17592186044416, .slice 3127 0 2 2 false 1, .int .u64 17592186044417, .slice 3133 0 5 5 false 1]),
 (3148, .cells 0 103 0 [.n 0, .n 1, .n 1, .n 0, .n 0, .n 0, .n 0, .n 0, .str []]),
 (3172, .cells 0 56 1 [.n 0, .n (-1), .bool false, .n 0, .n 1, .n 0, .bool false, .n 0, .n 2, .n 1, .bool false, .n 0]),
 (3176, .cells 0 82 0 [.slice 3177 0 1 1 false 1, .n 1]),
 (3177, .bytes 0 5 0 [2]),
 (3225, .map [⟨.str [100], .str [97], 0⟩] 1),
 (3226, .map [] 0),
 (3227, .cells 0 243 0 [.n 128, .map 3226, .slice0]),
 (3228, .cells 0 126 0 [.n 0, .slice 3299 0 1 1 false 1, .map 3225, .slice0, .ptr 3227 0]),
 (3299, .cells 0 9 0 [.str [100]]),
 (3355, .bytes 0 5 0 [9, 2]),
 (3394, .bytes 0 5 1 [2, 0, 0, 0, 0, 0, 0, 0, 0, 16, 0, 0, 29, 0, 141, 0, 9, 1, 5, 0, 0, 0, 1, 0, 0, 0, 0, 16, 0, 0, 223, 0, 139, 2, 1, 1, 100, 1, 97, 2, 0, 0, 0, 2, 0, 0, 0, 0, 32, 0, 0, 48, 0, 242, 0, 9, 2]),
 (3396, .cells 0 92 1 [.int .u64 17592186044416, .slice 1704 0 2 2 false 1, .int .u64 17592186044417, .slice 1755 0 5 5 false 1, .int .u64 35184372088834, .slice 3355 0 2 2 false 1])], 3405⟩
def memo13 : Memo := ⟨20, [.ptr 448 0, .n 1, .agg [.n 2, .n 0, .n 0, .n 0, .n 0, .n 0, .str [100], .str [], .str []]],
 [(446, .cells 0 199 0 [.slice 3419 0 4 4 false 4]),
 (447, .cells 0 202 0 [.slice 1080 0 0 2 false 1]),
 (448, .cells 0 112 0 [.ptr 450 0, .ptr 455 0, .ptr 453 0, .ptr 458 0, .ptr 446 0, .ptr 447 0, .n 11, .n 0, .n 0, .n 0, .n 0, .str [], .slice 1915 0 1 1 false 9]),
 (449, .map [⟨.str [111, 117, 114, 115], .ptr 495 0, 1⟩, ⟨.str [119, 45, 48, 48, 48, 48, 48, 48, 48, 48, 48, 48, 48, 48], .ptr 557 0, 2⟩] 3),
 (450, .cells 0 78 0 [.n 131072, .map 449, .bool true, .n 0, .slice0]),
 (451, .cells 0 69 0 [.ptr 450 0, .n 512, .slice 560 0 1 1 false 2, .slice 758 0 2 2 false 2, .n 0, .n 2]),
 (453, .cells 0 208 0 [.ptr 451 0, .n 0, .n 1, .bool true, .bool false, .ptr 500 0, .n 0, .n 1, .n 2, .n 2, .n 1, .slice 865 8 0 0 false 8]),
 (454, .map [⟨.str [111, 117, 114, 115], .ptr 3176 0, 1⟩, ⟨.str [119, 45, 48, 48, 48, 48, 48, 48, 48, 48, 48, 48, 48, 48], .ptr 1744 0, 2⟩] 4),
 (455, .cells 0 78 0 [.n 131072, .map 454, .bool false, .n 0, .slice0]),
 (456, .cells 0 69 0 [.ptr 455 0, .n 512, .slice 1747 0 1 1 false 2, .slice 3396 0 3 3 false 2, .n 0, .n 3]),
 (458, .cells 0 208 0 [.ptr 456 0, .n 1, .n 2, .bool true, .bool true, .ptr 3228 0, .n 1, .n 2, .n 3, .n 0, .n 0, .slice0]),
 (469, .cells 0 29 0 [.n 12, .n 0, .n 0, .n 0, .n 0, .str []]),
 (495, .cells 0 82 0 [.slice 496 0 1 1 false 1, .n 1]),
 (496, .bytes 0 5 0 [1]),
 (497, .map [⟨.str [100], .str [97], 0⟩] 1),
 (498, .map [] 0),
 (499, .cells 0 243 0 [.n 128, .map 498, .slice0]),
 (500, .cells 0 126 0 [.n 0, .slice 824 0 1 1 false 1, .map 497, .slice0, .ptr 499 0]),
 (517, .bytes 0 5 0 [9, 1]),
 (557, .cells 0 82 0 [.slice 756 0 39 39 false 1, .n 39]),
 (560, .cells 0 160 0 [.n 0, .n 39]),
 (577, .bytes 0 5 0 [9, 1]),
 (579, .cells 0 92 0 [.int .u64 17592186044416, .slice 577 0 2 2 false 1]),
 (717, .bytes 0 5 0 [1, 1, 100, 1, 97]),
 (756, .bytes 0 5 1 [2, 0, 0, 0, 0, 0, 0, 0, 0, 16, 0, 0, 29, 0, 141, 0, 9, 1, 5, 0, 0, 0, 1, 0, 0, 0, 0, 16, 0, 0, 223, 0, 139, 2, 1, 1, 100, 1, 97]),
 (758, .cells 0 92 1 [.int .u64 17592186044416, .slice 517 0 2 2 false 1, .int .u64 17592186044417, .slice 717 0 5 5 false 1]),
 (824, .cells 0 9 0 [.str [100]]),
 (865, .cells 0 274 0 [.n 1, .n 0, .n 0, .n 0, .n 0, .n 0, .str [], .n 1]),
 (1080, .cells 0 80 1 [.slice0, .slice0]),
 (1704, .bytes 0 5 0 [9, 1]),
 (1744, .cells 0 82 0 [.slice 3394 0 57 57 false 1, .n 57]),
 (1747, .cells 0 160 0 [.n 0, .n 57]),
 (1755, .bytes 0 5 0 [1, 1, 100, 1, 97]),
 (1915, .cells 0 103 0 [.n 0, .n 1, .n 1, .n 0, .n 0, .n 0, .n 0, .n 0, .str []]),
 (3127, .bytes 0 5 0 [9, 1]),
 (3133, .bytes 0 5 0 [1, 1, 100, 1, 97]),
 (3135, .cells 0 92 1 [.int .u64 17592186044416, .slice 3127 0 2 2 false 1, .int .u64 17592186044417, .slice 3133 0 5 5 false 1]),
 (3148, .cells 0 103 0 [.n 0, .n 1, .n 1, .n 0, .n 0, .n 0, .n 0, .n 0, .str []]),
 (3176, .cells 0 82 0 [.slice 3177 0 1 1 false 1, .n 1]),
 (3177, .bytes 0 5 0 [2]),
 (3225, .map [⟨.str [100], .str [97], 0⟩] 1),
 (3226, .map [] 0),
 (3227, .cells 0 243 0 [.n 128, .map 3226, .slice0]),
 (3228, .cells 0 126 0 [.n 0, .slice 3299 0 1 1 false 1, .map 3225, .slice0, .ptr 3227 0]),
 (3299, .cells 0 9 0 [.str [100]]),
 (3355, .bytes 0 5 0 [9, 2]),
 (3394, .bytes 0 5 1 [2, 0, 0, 0, 0, 0, 0, 0, 0, 16, 0, 0, 29, 0, 141, 0, 9, 1, 5, 0, 0, 0, 1, 0, 0, 0, 0, 16, 0, 0, 223, 0, 139, 2, 1, 1, 100, 1, 97, 2, 0, 0, 0, 2, 0, 0, 0, 0, 32, 0, 0, 48, 0, 242, 0, 9, 2]),
 (3396, .cells 0 92 1 [.int .u64 17592186044416, .slice 1704 0 2 2 false 1, .int .u64 17592186044417, .slice 1755 0 5 5 false 1, .int .u64 35184372088834, .slice 3355 0 2 2 false 1]),
 (3419, .cells 0 56 1 [.n 0, .n (-1), .bool false, .n 0, .n 1, .n 0, .bool false, .n 0, .n 2, .n 1, .bool false, .n 0, .n 2, .n 1, .bool true, .n 0])], 3421,
 .n 0,
 [(446, .cells 0 199 0 [.slice 3419 0 4 4 false 4]),
 (447, .cells 0 202 0 [.slice 1080 0 0 2 false 1]),
 (448, .cells 0 112 0 [.ptr 450 0, .ptr 455 0, .ptr 453 0, .ptr 458 0, .ptr 446 0, .ptr 447 0, .n 0, .n 0, .n 0, .n 0, .n 0, .str [], .slice 3748 0 2 2 false 9]),
 (449, .map [⟨.str [111, 117, 114, 115], .ptr 495 0, 1⟩, ⟨.str [119, 45, 48, 48, 48, 48, 48, 48, 48, 48, 48, 48, 48, 48], .ptr 557 0, 2⟩] 3),
 (450, .cells 0 78 0 [.n 131072, .map 449, .bool true, .n 0, .slice0]),
 (451, .cells 0 69 0 [.ptr 450 0, .n 512, .slice 560 0 1 1 false 2, .slice 758 0 2 2 false 2, .n 0, .n 2]),
 (453, .cells 0 208 0 [.ptr 451 0, .n 0, .n 1, .bool true, .bool false, .ptr 500 0, .n 0, .n 1, .n 2, .n 2, .n 1, .slice 865 8 0 0 false 8]),
 (454, .map [⟨.str [111, 117, 114, 115], .ptr 3176 0, 1⟩, ⟨.str [119, 45, 48, 48, 48, 48, 48, 48, 48, 48, 48, 48, 48, 48], .ptr 1744 0, 2⟩] 4),
 (455, .cells 0 78 0 [.n 131072, .map 454, .bool false, .n 0, .slice0]),
 (456, .cells 0 69 0 [.ptr 455 0, .n 512, .slice 1747 0 1 1 false 2, .slice 3619 0 4 4 false 2, .n 0, .n 4]),
 (458, .cells 0 208 0 [.ptr 456 0, .n 1, .n 2, .bool true, .bool true, .ptr 3228 0, .n 1, .n 2, .n 3, .n 0, .n 1, .slice 3741 8 0 0 false 8]),
 (469, .cells 0 29 0 [.n 12, .n 0, .n 0, .n 0, .n 0, .str []]),
 (495, .cells 0 82 0 [.slice 496 0 1 1 false 1, .n 1]),
 (496, .bytes 0 5 0 [1]),
 (497, .map [⟨.str [100], .str [97], 0⟩] 1),
 (498, .map [] 0),
 (499, .cells 0 243 0 [.n 128, .map 498, .slice0]),
 (500, .cells 0 126 0 [.n 0, .slice 824 0 1 1 false 1, .map 497, .slice0, .ptr 499 0]),
 (517, .bytes 0 5 0 [9, 1]),
 (557, .cells 0 82 0 [.slice 756 0 39 39 false 1, .n 39]),
 (560, .cells 0 160 0 [.n 0, .n 39]),
 (577, .bytes 0 5 0 [9, 1]),
 (579, .cells 0 92 0 [.int .u64 17592186044416, .slice 577 0 2 2 false 1]),
 (717, .bytes 0 5 0 [1, 1, 100, 1, 97]),
 (756, .bytes 0 5 1 [2, 0, 0, 0, 0, 0, 0, 0, 0, 16, 0, 0, 29, 0, 141, 0, 9, 1, 5, 0, 0, 0, 1, 0, 0, 0, 0, 16, 0, 0, 223, 0, 139, 2, 1, 1, 100, 1, 97]),
 (758, .cells 0 92 1 [.int .u64 17592186044416, .slice 517 0 2 2 false 1, .int .u64 17592186044417, .slice 717 0 5 5 false 1]),
 (824, .cells 0 9 0 [.str [100]]),
 (865, .cells 0 274 0 [.n 1, .n 0, .n 0, .n 0, .n 0, .n 0, .str [], .n 1]),
 (1080, .cells 0 80 1 [.slice0, .slice0]),
 (1704, .bytes 0 5 0 [9, 1]),
 (1744, .cells 0 82 0 [.slice 3617 0 78 78 false 1, .n 78]),
 (1747, .cells 0 160 0 [.n 0, .n 78]),
 (1755, .bytes 0 5 0 [1, 1, 100, 1, 97]),
 (3127, .bytes 0 5 0 [9, 1]),
 (3133, .bytes 0 5 0 [1, 1, 100, 1, 97]),
 (3135, .cells 0 92 1 [.int .u64 17592186044416, .slice 3127 0 2 2 false 1, .int .u64 17592186044417, .slice 3133 0 5 5 false 1]),
 (3148, .cells 0 103 0 [.n 0, .n 1, .n 1, .n 0, .n 0, .n 0, .n 0, .n 0, .str []]),
 (3176, .cells 0 82 0 [.slice 3177 0 1 1 false 1, .n 1]),
 (3177, .bytes 0 5 0 [2]),
 (3225, .map [⟨.str [100], .str [97], 0⟩] 1),
 (3226, .map [] 0),
 (3227, .cells 0 243 0 [.n 128, .map 3226, .slice0]),
 (3228, .cells 0 126 0 [.n 0, .slice 3299 0 1 1 false 1, .map 3225, .slice 3739 0 1 1 false 5, .ptr 3227 0]),
 (3299, .cells 0 9 0 [.str [100]]),
 (3355, .bytes 0 5 0 [9, 2]),
 (3419, .cells 0 56 1 [.n 0, .n (-1), .bool false, .n 0, .n 1, .n 0, .bool false, .n 0, .n 2, .n 1, .bool false, .n 0, .n 2, .n 1, .bool true, .n 0]),
 (3578, .bytes 0 5 0 [2, 1, 1, 100, 0]),
 (3617, .bytes 0 5 1 [2, 0, 0, 0, 0, 0, 0, 0, 0, 16, 0, 0, 29, 0, 141, 0, 9, 1, 5, 0, 0, 0, 1, 0, 0, 0, 0, 16, 0, 0, 223, 0, 139, 2, 1, 1, 100, 1, 97, 2, 0, 0, 0, 2, 0, 0, 0, 0, 32, 0, 0, 48, 0, 242, 0, 9, 2, 5, 0, 0, 0, 3, 0, 0, 0, 0, 32, 0, 0, 145, 0, 102, 2, 2, 1, 1, 100, 0]),
 (3619, .cells 0 92 1 [.int .u64 17592186044416, .slice 1704 0 2 2 false 1, .int .u64 17592186044417, .slice 1755 0 5 5 false 1, .int .u64 35184372088834, .slice 3355 0 2 2 false 1, .int .u64 35184372088835, .slice 3578 0 5 5 false 1]),
 (3730, .cells 0 147 0 [.str [97], .slice0, .n 0, .n 10, .n 1, .str []]),
 (3733, .cells 0 224 0 [.n 1, .n 0, .n 0, .str []]),
 (3739, .cells 0 139 0 [.slice 3730 0 1 1 false 6, .n 0, .slice 3733 0 1 1 false 4, .slice0, .str [100]]),
 (3741, .cells 0 274 0 [.n 1, .n 0, .n 1, .n 0, .n 0, .n 0, .str [], .n 3]),
 (3748, .cells 0 103 1 [.n 0, .n 1, .n 1, .n 0, .n 0, .n 0, .n 0, .n 0, .str [], .n 1, .n 2, .n 1, .n 0, .n 1, .n 0, .n 0, .n 0, .str []])], 3749⟩
def memo14 : Memo := ⟨19, [.ptr 448 0, .n 6, .n 0, .n 0],
 [(446, .cells 0 199 0 [.slice 3419 0 4 4 false 4]),
 (447, .cells 0 202 0 [.slice 1080 0 0 2 false 1]),
 (448, .cells 0 112 0 [.ptr 450 0, .ptr 455 0, .ptr 453 0, .ptr 458 0, .ptr 446 0, .ptr 447 0, .n 0, .n 0, .n 0, .n 0, .n 0, .str [], .slice 3748 0 2 2 false 9]),
 (449, .map [⟨.str [111, 117, 114, 115], .ptr 495 0, 1⟩, ⟨.str [119, 45, 48, 48, 48, 48, 48, 48, 48, 48, 48, 48, 48, 48], .ptr 557 0, 2⟩] 3),
 (450, .cells 0 78 0 [.n 131072, .map 449, .bool true, .n 0, .slice0]),
 (451, .cells 0 69 0 [.ptr 450 0, .n 512, .slice 560 0 1 1 false 2, .slice 758 0 2 2 false 2, .n 0, .n 2]),
 (453, .cells 0 208 0 [.ptr 451 0, .n 0, .n 1, .bool true, .bool false, .ptr 500 0, .n 0, .n 1, .n 2, .n 2, .n 1, .slice 865 8 0 0 false 8]),
 (454, .map [⟨.str [111, 117, 114, 115], .ptr 3176 0, 1⟩, ⟨.str [119, 45, 48, 48, 48, 48, 48, 48, 48, 48, 48, 48, 48, 48], .ptr 1744 0, 2⟩] 4),
 (455, .cells 0 78 0 [.n 131072, .map 454, .bool false, .n 0, .slice0]),
 (456, .cells 0 69 0 [.ptr 455 0, .n 512, .slice 1747 0 1 1 false 2, .slice 3619 0 4 4 false 2, .n 0, .n 4]),
 (458, .cells 0 208 0 [.ptr 456 0, .n 1, .n 2, .bool true, .bool true, .ptr 3228 0, .n 1, .n 2, .n 3, .n 0, .n 1, .slice 3741 8 0 0 false 8]),
 (469, .cells 0 29 0 [.n 12, .n 0, .n 0, .n 0, .n 0, .str []]),
 (495, .cells 0 82 0 [.slice 496 0 1 1 false 1, .n 1]),
 (496, .bytes 0 5 0 [1]),
 (497, .map [⟨.str [100], .str [97], 0⟩] 1),
 (498, .map [] 0),
 (499, .cells 0 243 0 [.n 128, .map 498, .slice0]),
 (500, .cells 0 126 0 [.n 0, .slice 824 0 1 1 false 1, .map 497, .slice0, .ptr 499 0]),
 (517, .bytes 0 5 0 [9, 1]),
 (557, .cells 0 82 0 [.slice 756 0 39 39 false 1, .n 39]),
 (560, .cells 0 160 0 [.n 0, .n 39]),
 (577, .bytes 0 5 0 [9, 1]),
 (579, .cells 0 92 0 [.int .u64 17592186044416, .slice 577 0 2 2 false 1]),
 (717, .bytes 0 5 0 [1, 1, 100, 1, 97]),
 (756, .bytes 0 5 1 [2, 0, 0, 0, 0, 0, 0, 0, 0, 16, 0, 0, 29, 0, 141, 0, 9, 1, 5, 0, 0, 0, 1, 0, 0, 0, 0, 16, 0, 0, 223, 0, 139, 2, 1, 1, 100, 1, 97]),
 (758, .cells 0 92 1 [.int .u64 17592186044416, .slice 517 0 2 2 false 1, .int .u64 17592186044417, .slice 717 0 5 5 false 1]),
 (824, .cells 0 9 0 [.str [100]]),
 (865, .cells 0 274 0 [.n 1, .n 0, .n 0, .n 0, .n 0, .n 0, .str [], .n 1]),
 (1080, .cells 0 80 1 [.slice0, .slice0]),
 (1704, .bytes 0 5 0 [9, 1]),
 (1744, .cells 0 82 0 [.slice 3617 0 78 78 false 1, .n 78]),
 (1747, .cells 0 160 0 [.n 0, .n 78]),
 (1755, .bytes 0 5 0 [1, 1, 100, 1, 97]),
 (3127, .bytes 0 5 0 [9, 1]),
 (3133, .bytes 0 5 0 [1, 1, 100, 1, 97]),
 (3135, .cells 0 92 1 [.int .u64 17592186044416, .slice 3127 0 2 2 false 1, .int .u64 17592186044417, .slice 3133 0 5 5 false 1]),
 (3148, .cells 0 103 0 [.n 0, .n 1, .n 1, .n 0, .n 0, .n 0, .n 0, .n 0, .str []]),
 (3176, .cells 0 82 0 [.slice 3177 0 1 1 false 1, .n 1]),
 (3177, .bytes 0 5 0 [2]),
 (3225, .map [⟨.str [100], .str [97], 0⟩] 1),
 (3226, .map [] 0),
 (3227, .cells 0 243 0 [.n 128, .map 3226, .slice0]),
 (3228, .cells 0 126 0 [.n 0, .slice 3299 0 1 1 false 1, .map 3225, .slice 3739 0 1 1 false 5, .ptr 3227 0]),
 (3299, .cells 0 9 0 [.str [100]]),
 (3355, .bytes 0 5 0 [9, 2]),
 (3419, .cells 0 56 1 [.n 0, .n (-1), .bool false, .n 0, .n 1, .n 0, .bool false, .n 0, .n 2, .n 1, .bool false, .n 0, .n 2, .n 1, .bool true, .n 0]),
 (3578, .bytes 0 5 0 [2, 1, 1, 100, 0]),
 (3617, .bytes 0 5 1 [2, 0, 0, 0, 0, 0, 0, 0, 0, 16, 0, 0, 29, 0, 141, 0, 9, 1, 5, 0, 0, 0, 1, 0, 0, 0, 0, 16, 0, 0, 223, 0, 139, 2, 1, 1, 100, 1, 97, 2, 0, 0, 0, 2, 0, 0, 0, 0, 32, 0, 0, 48, 0, 242, 0, 9, 2, 5, 0, 0, 0, 3, 0, 0, 0, 0, 32, 0, 0, 145, 0, 102, 2, 2, 1, 1, 100, 0]),
 (3619, .cells 0 92 1 [.int .u64 17592186044416, .slice 1704 0 2 2 false 1, .int .u64 17592186044417, .slice 1755 0 5 5 false 1, .int .u64 35184372088834, .slice 3355 0 2 2 false 1, .int .u64 35184372088835, .slice 3578 0 5 5 false 1]),
 (3730, .cells 0 147 0 [.str [97], .slice0, .n 0, .n 10, .n 1, .str []]),
 (3733, .cells 0 224 0 [.n 1, .n 0, .n 0, .str []]),
 (3739, .cells 0 139 0 [.slice 3730 0 1 1 false 6, .n 0, .slice 3733 0 1 1 false 4, .slice0, .str [100]]),
 (3741, .cells 0 274 0 [.n 1, .n 0, .n 1, .n 0, .n 0, .n 0, .str [], .n 3]),
 (3748, .cells 0 103 1 [.n 0, .n 1, .n 1, .n 0, .n 0, .n 0, .n 0, .n 0, .str [], .n 1, .n 2, .n 1, .n 0, .n 1, .n 0, .n 0, .n 0, .str []]),
 (3751, .cells 0 56 0 [.n 2, .n 1, .bool true, .n 0])], 3752,
 .n 0,
 [(446, .cells 0 199 0 [.slice 3419 0 4 4 false 4]),
 (447, .cells 0 202 0 [.slice 1080 0 0 2 false 1]),
 (448, .cells 0 112 0 [.ptr 450 0, .ptr 455 0, .ptr 3790 0, .ptr 458 0, .ptr 446 0, .ptr 447 0, .n 0, .n 0, .n 0, .n 0, .n 0, .str [], .slice 3748 0 2 2 false 9]),
 (449, .map [⟨.str [111, 117, 114, 115], .ptr 495 0, 1⟩, ⟨.str [119, 45, 48, 48, 48, 48, 48, 48, 48, 48, 48, 48, 48, 48], .ptr 557 0, 2⟩] 3),
 (450, .cells 0 78 0 [.n 131072, .map 449, .bool false, .n 0, .slice0]),
 (454, .map [⟨.str [111, 117, 114, 115], .ptr 3176 0, 1⟩, ⟨.str [119, 45, 48, 48, 48, 48, 48, 48, 48, 48, 48, 48, 48, 48], .ptr 1744 0, 2⟩] 4),
 (455, .cells 0 78 0 [.n 131072, .map 454, .bool false, .n 0, .slice0]),
 (456, .cells 0 69 0 [.ptr 455 0, .n 512, .slice 1747 0 1 1 false 2, .slice 3619 0 4 4 false 2, .n 0, .n 4]),
 (458, .cells 0 208 0 [.ptr 456 0, .n 1, .n 2, .bool true, .bool true, .ptr 3228 0, .n 1, .n 2, .n 3, .n 0, .n 1, .slice 3741 8 0 0 false 8]),
 (469, .cells 0 29 0 [.n 12, .n 0, .n 0, .n 0, .n 0, .str []]),
 (495, .cells 0 82 0 [.slice 496 0 1 1 false 1, .n 1]),
 (496, .bytes 0 5 0 [1]),
 (557, .cells 0 82 0 [.slice 756 0 39 39 false 1, .n 39]),
 (577, .bytes 0 5 0 [9, 1]),
 (579, .cells 0 92 0 [.int .u64 17592186044416, .slice 577 0 2 2 false 1]),
 (756, .bytes 0 5 1 [2, 0, 0, 0, 0, 0, 0, 0, 0, 16, 0, 0, 29, 0, 141, 0, 9, 1, 5, 0, 0, 0, 1, 0, 0, 0, 0, 16, 0, 0, 223, 0, 139, 2, 1, 1, 100, 1, 97]),
 (1080, .cells 0 80 1 [.slice0, .slice0]),
 (1704, .bytes 0 5 0 [9, 1]),
 (1744, .cells 0 82 0 [.slice 3617 0 78 78 false 1, .n 78]),
 (1747, .cells 0 160 0 [.n 0, .n 78]),
 (1755, .bytes 0 5 0 [1, 1, 100, 1, 97]),
 (3127, .bytes 0 5 0 [9, 1]),
 (3133, .bytes 0 5 0 [1, 1, 100, 1, 97]),
 (3135, .cells 0 92 1 [.int .u64 17592186044416, .slice 3127 0 2 2 false 1, .int .u64 17592186044417, .slice 3133 0 5 5 false 1]),
 (3148, .cells 0 103 0 [.n 0, .n 1, .n 1, .n 0, .n 0, .n 0, .n 0, .n 0, .str []]),
 (3176, .cells 0 82 0 [.slice 3177 0 1 1 false 1, .n 1]),
 (3177, .bytes 0 5 0 [2]),
 (3225, .map [⟨.str [100], .str [97], 0⟩] 1),
 (3226, .map [] 0),
 (3227, .cells 0 243 0 [.n 128, .map 3226, .slice0]),
 (3228, .cells 0 126 0 [.n 0, .slice 3299 0 1 1 false 1, .map 3225, .slice 3739 0 1 1 false 5, .ptr 3227 0]),
 (3299, .cells 0 9 0 [.str [100]]),
 (3355, .bytes 0 5 0 [9, 2]),
 (3419, .cells 0 56 1 [.n 0, .n (-1), .bool false, .n 0, .n 1, .n 0, .bool false, .n 0, .n 2, .n 1, .bool false, .n 0, .n 2, .n 1, .bool true, .n 0]),
 (3578, .bytes 0 5 0 [2, 1, 1, 100, 0]),
 (3617, .bytes 0 5 1 [2, 0, 0, 0, 0, 0, 0, 0, 0, 16, 0, 0, 29, 0, 141, 0, 9, 1, 5, 0, 0, 0, 1, 0, 0, 0, 0, 16, 0, 0, 223, 0, 139, 2, 1, 1, 100, 1, 97, 2, 0, 0, 0, 2, 0, 0, 0, 0, 32, 0, 0, 48, 0, 242, 0, 9, 2, 5, 0, 0, 0, 3, 0, 0, 0, 0, 32, 0, 0, 145, 0, 102, 2, 2, 1, 1, 100, 0]),
 (3619, .cells 0 92 1 [.int .u64 17592186044416, .slice 1704 0 2 2 false 1, .int .u64 17592186044417, .slice 1755 0 5 5 false 1, .int .u64 35184372088834, .slice 3355 0 2 2 false 1, .int .u64 35184372088835, .slice 3578 0 5 5 false 1]),
 (3730, .cells 0 147 0 [.str [97], .slice0, .n 0, .n 10, .n 1, .str []]),
 (3733, .cells 0 224 0 [.n 1, .n 0, .n 0, .str []]),
 (3739, .cells 0 139 0 [.slice 3730 0 1 1 false 6, .n 0, .slice 3733 0 1 1 false 4, .slice0, .str [100]]),
 (3741, .cells 0 274 0 [.n 1, .n 0, .n 1, .n 0, .n 0, .n 0, .str [], .n 3]),
 (3748, .cells 0 103 1 [.n 0, .n 1, .n 1, .n 0, .n 0, .n 0, .n 0, .n 0, .str [], .n 1, .n 2, .n 1, .n 0, .n 1, .n 0, .n 0, .n 0, .str []]),
 (3751, .cells 0 56 0 [.n 2, .n 1, .bool true, .n 0]),
 (3754, .cells 0 69 0 [.ptr 450 0, .n 512, .slice 3782 0 1 1 false 2, .slice 3783 0 2 2 false 2, .n 0, .n 2]),
 (3771, .bytes 0 5 0 [9, 1]),
 (3777, .bytes 0 5 0 [1, 1, 100, 1, 97]),
 (3782, .cells 0 160 0 [.n 0, .n 39]),
 (3783, .cells 0 92 0 [.int .u64 17592186044416, .slice 3771 0 2 2 false 1, .int .u64 17592186044417, .slice 3777 0 5 5 false 1]),
 (3790, .cells 0 208 0 [.ptr 3754 0, .n 0, .n 1, .bool false, .bool false, .ptr0, .n 0, .n 0, .n 0, .n 0, .n 0, .slice0])], 3792⟩
noncomputable section
def pm1 (g : Nat) : Option Prim := bif Nat.beq g 16 then some (memoP begin0 (fun args H => F.runF Tryz.prog ext prim0 60000 16 args H) [memo1]) else prim0 g
def pm2 (g : Nat) : Option Prim := bif Nat.beq g 16 then some (memoP begin0 (fun args H => F.runF Tryz.prog ext prim0 60000 16 args H) [memo1]) else bif Nat.beq g 19 then some (memoP begin0 (fun args H => F.runF Tryz.prog ext prim0 60000 19 args H) [memo2]) else prim0 g
def pm3 (g : Nat) : Option Prim := bif Nat.beq g 16 then some (memoP begin0 (fun args H => F.runF Tryz.prog ext prim0 60000 16 args H) [memo1]) else bif Nat.beq g 19 then some (memoP begin0 (fun args H => F.runF Tryz.prog ext prim0 60000 19 args H) [memo2]) else bif Nat.beq g 20 then some (memoP begin0 (fun args H => F.runF Tryz.prog ext prim0 60000 20 args H) [memo3]) else prim0 g
def pm4 (g : Nat) : Option Prim := bif Nat.beq g 16 then some (memoP begin0 (fun args H => F.runF Tryz.prog ext prim0 60000 16 args H) [memo1]) else bif Nat.beq g 19 then some (memoP begin0 (fun args H => F.runF Tryz.prog ext prim0 60000 19 args H) [memo2, memo4]) else bif Nat.beq g 20 then some (memoP begin0 (fun args H => F.runF Tryz.prog ext prim0 60000 20 args H) [memo3]) else prim0 g
def pm5 (g : Nat) : Option Prim := bif Nat.beq g 16 then some (memoP begin0 (fun args H => F.runF Tryz.prog ext prim0 60000 16 args H) [memo1]) else bif Nat.beq g 19 then some (memoP begin0 (fun args H => F.runF Tryz.prog ext prim0 60000 19 args H) [memo2, memo4, memo5]) else bif Nat.beq g 20 then some (memoP begin0 (fun args H => F.runF Tryz.prog ext prim0 60000 20 args H) [memo3]) else prim0 g
def pm6 (g : Nat) : Option Prim := bif Nat.beq g 16 then some (memoP begin0 (fun args H => F.runF Tryz.prog ext prim0 60000 16 args H) [memo1]) else bif Nat.beq g 19 then some (memoP begin0 (fun args H => F.runF Tryz.prog ext prim0 60000 19 args H) [memo2, memo4, memo5, memo6]) else bif Nat.beq g 20 then some (memoP begin0 (fun args H => F.runF Tryz.prog ext prim0 60000 20 args H) [memo3]) else prim0 g
def pm7 (g : Nat) : Option Prim := bif Nat.beq g 16 then some (memoP begin0 (fun args H => F.runF Tryz.prog ext prim0 60000 16 args H) [memo1]) else bif Nat.beq g 19 then some (memoP begin0 (fun args H => F.runF Tryz.prog ext prim0 60000 19 args H) [memo2, memo4, memo5, memo6, memo7]) else bif Nat.beq g 20 then some (memoP begin0 (fun args H => F.runF Tryz.prog ext prim0 60000 20 args H) [memo3]) else prim0 g
def pm8 (g : Nat) : Option Prim := bif Nat.beq g 16 then some (memoP begin0 (fun args H => F.runF Tryz.prog ext prim0 60000 16 args H) [memo1]) else bif Nat.beq g 19 then some (memoP begin0 (fun args H => F.runF Tryz.prog ext prim0 60000 19 args H) [memo2, memo4, memo5, memo6, memo7, memo8]) else bif Nat.beq g 20 then some (memoP begin0 (fun args H => F.runF Tryz.prog ext prim0 60000 20 args H) [memo3]) else prim0 g
def pm9 (g : Nat) : Option Prim := bif Nat.beq g 16 then some (memoP begin0 (fun args H => F.runF Tryz.prog ext prim0 60000 16 args H) [memo1]) else bif Nat.beq g 19 then some (memoP begin0 (fun args H => F.runF Tryz.prog ext prim0 60000 19 args H) [memo2, memo4, memo5, memo6, memo7, memo8, memo9]) else bif Nat.beq g 20 then some (memoP begin0 (fun args H => F.runF Tryz.prog ext prim0 60000 20 args H) [memo3]) else prim0 g
def pm10 (g : Nat) : Option Prim := bif Nat.beq g 16 then some (memoP begin0 (fun args H => F.runF Tryz.prog ext prim0 60000 16 args H) [memo1]) else bif Nat.beq g 19 then some (memoP begin0 (fun args H => F.runF Tryz.prog ext prim0 60000 19 args H) [memo2, memo4, memo5, memo6, memo7, memo8, memo9, memo10]) else bif Nat.beq g 20 then some (memoP begin0 (fun args H => F.runF Tryz.prog ext prim0 60000 20 args H) [memo3]) else prim0 g
def pm11 (g : Nat) : Option Prim := bif Nat.beq g 16 then some (memoP begin0 (fun args H => F.runF Tryz.prog ext prim0 60000 16 args H) [memo1]) else bif Nat.beq g 19 then some (memoP begin0 (fun args H => F.runF Tryz.prog ext prim0 60000 19 args H) [memo2, memo4, memo5, memo6, memo7, memo8, memo9, memo10, memo11]) else bif Nat.beq g 20 then some (memoP begin0 (fun args H => F.runF Tryz.prog ext prim0 60000 20 args H) [memo3]) else prim0 g
def pm12 (g : Nat) : Option Prim := bif Nat.beq g 16 then some (memoP begin0 (fun args H => F.runF Tryz.prog ext prim0 60000 16 args H) [memo1]) else bif Nat.beq g 19 then some (memoP begin0 (fun args H => F.runF Tryz.prog ext prim0 60000 19 args H) [memo2, memo4, memo5, memo6, memo7, memo8, memo9, memo10, memo11, memo12]) else bif Nat.beq g 20 then some (memoP begin0 (fun args H => F.runF Tryz.prog ext prim0 60000 20 args H) [memo3]) else prim0 g
def pm13 (g : Nat) : Option Prim := bif Nat.beq g 16 then some (memoP begin0 (fun args H => F.runF Tryz.prog ext prim0 60000 16 args H) [memo1]) else bif Nat.beq g 19 then some (memoP begin0 (fun args H => F.runF Tryz.prog ext prim0 60000 19 args H) [memo2, memo4, memo5, memo6, memo7, memo8, memo9, memo10, memo11, memo12]) else bif Nat.beq g 20 then some (memoP begin0 (fun args H => F.runF Tryz.prog ext prim0 60000 20 args H) [memo3, memo13]) else prim0 g
def pm14 (g : Nat) : Option Prim := bif Nat.beq g 16 then some (memoP begin0 (fun args H => F.runF Tryz.prog ext prim0 60000 16 args H) [memo1]) else bif Nat.beq g 19 then some (memoP begin0 (fun args H => F.runF Tryz.prog ext prim0 60000 19 args H) [memo2, memo4, memo5, memo6, memo7, memo8, memo9, memo10, memo11, memo12, memo14]) else bif Nat.beq g 20 then some (memoP begin0 (fun args H => F.runF Tryz.prog ext prim0 60000 20 args H) [memo3, memo13]) else prim0 g
def pm0 (g : Nat) : Option Prim := prim0 g
end
theorem pm0OK : PrimOK Tryz.prog pm0 := prim0OK
theorem pm1OK (h1 : MemoOK Tryz.prog begin0 memo1) : PrimOK Tryz.prog pm1 := by
  intro fid p h args H v H' hp
  unfold pm1 at h
  cases hq : Nat.beq fid 16 with
  | true =>
    rw [hq] at h
    cases h
    obtain rfl := Nat.eq_of_beq_eq_true hq
    refine memoP_ok (run_one mixed namesOK extOK prim0OK Tryz.func16 rfl) _ ?_ args H v H' hp
    intro m hm
    simp only [List.mem_cons, List.mem_nil_iff, or_false] at hm
    rcases hm with rfl
    · exact ⟨rfl, h1⟩
  | false =>
    rw [hq] at h
    clear hq
    exact prim0OK fid p h args H v H' hp
theorem pm2OK (h1 : MemoOK Tryz.prog begin0 memo1) (h2 : MemoOK Tryz.prog begin0 memo2) : PrimOK Tryz.prog pm2 := by
  intro fid p h args H v H' hp
  unfold pm2 at h
  cases hq : Nat.beq fid 16 with
  | true =>
    rw [hq] at h
    cases h
    obtain rfl := Nat.eq_of_beq_eq_true hq
    refine memoP_ok (run_one mixed namesOK extOK prim0OK Tryz.func16 rfl) _ ?_ args H v H' hp
    intro m hm
    simp only [List.mem_cons, List.mem_nil_iff, or_false] at hm
    rcases hm with rfl
    · exact ⟨rfl, h1⟩
  | false =>
    rw [hq] at h
    clear hq
    cases hq : Nat.beq fid 19 with
    | true =>
      rw [hq] at h
      cases h
      obtain rfl := Nat.eq_of_beq_eq_true hq
      refine memoP_ok (run_one mixed namesOK extOK prim0OK Tryz.func19 rfl) _ ?_ args H v H' hp
      intro m hm
      simp only [List.mem_cons, List.mem_nil_iff, or_false] at hm
      rcases hm with rfl
      · exact ⟨rfl, h2⟩
    | false =>
      rw [hq] at h
      clear hq
      exact prim0OK fid p h args H v H' hp
theorem pm3OK (h1 : MemoOK Tryz.prog begin0 memo1) (h2 : MemoOK Tryz.prog begin0 memo2) (h3 : MemoOK Tryz.prog begin0 memo3) : PrimOK Tryz.prog pm3 := by
  intro fid p h args H v H' hp
  unfold pm3 at h
  cases hq : Nat.beq fid 16 with
  | true =>
    rw [hq] at h
    cases h
    obtain rfl := Nat.eq_of_beq_eq_true hq
    refine memoP_ok (run_one mixed namesOK extOK prim0OK Tryz.func16 rfl) _ ?_ args H v H' hp
    intro m hm
    simp only [List.mem_cons, List.mem_nil_iff, or_false] at hm
    rcases hm with rfl
    · exact ⟨rfl, h1⟩
  | false =>
    rw [hq] at h
    clear hq
    cases hq : Nat.beq fid 19 with
    | true =>
      rw [hq] at h
      cases h
      obtain rfl := Nat.eq_of_beq_eq_true hq
      refine memoP_ok (run_one mixed namesOK extOK prim0OK Tryz.func19 rfl) _ ?_ args H v H' hp
      intro m hm
      simp only [List.mem_cons, List.mem_nil_iff, or_false] at hm
      rcases hm with rfl
      · exact ⟨rfl, h2⟩
    | false =>
      rw [hq] at h
      clear hq
      cases hq : Nat.beq fid 20 with
      | true =>
        rw [hq] at h
        cases h
        obtain rfl := Nat.eq_of_beq_eq_true hq
        refine memoP_ok (run_one mixed namesOK extOK prim0OK Tryz.func20 rfl) _ ?_ args H v H' hp
        intro m hm
        simp only [List.mem_cons, List.mem_nil_iff, or_false] at hm
        rcases hm with rfl
        · exact ⟨rfl, h3⟩
      | false =>
        rw [hq] at h
        clear hq
        exact prim0OK fid p h args H v H' hp
theorem pm4OK (h1 : MemoOK Tryz.prog begin0 memo1) (h2 : MemoOK Tryz.prog begin0 memo2) (h3 : MemoOK Tryz.prog begin0 memo3) (h4 : MemoOK Tryz.prog begin0 memo4) : PrimOK Tryz.prog pm4 := by
  intro fid p h args H v H' hp
  unfold pm4 at h
  cases hq : Nat.beq fid 16 with
  | true =>
    rw [hq] at h
    cases h
    obtain rfl := Nat.eq_of_beq_eq_true hq
    refine memoP_ok (run_one mixed namesOK extOK prim0OK Tryz.func16 rfl) _ ?_ args H v H' hp
    intro m hm
    simp only [List.mem_cons, List.mem_nil_iff, or_false] at hm
    rcases hm with rfl
    · exact ⟨rfl, h1⟩
  | false =>
    rw [hq] at h
    clear hq
    cases hq : Nat.beq fid 19 with
    | true =>
      rw [hq] at h
      cases h
      obtain rfl := Nat.eq_of_beq_eq_true hq
      refine memoP_ok (run_one mixed namesOK extOK prim0OK Tryz.func19 rfl) _ ?_ args H v H' hp
      intro m hm
      simp only [List.mem_cons, List.mem_nil_iff, or_false] at hm
      rcases hm with rfl | rfl
      · exact ⟨rfl, h2⟩
      · exact ⟨rfl, h4⟩
    | false =>
      rw [hq] at h
      clear hq
      cases hq : Nat.beq fid 20 with
      | true =>
        rw [hq] at h
        cases h
        obtain rfl := Nat.eq_of_beq_eq_true hq
        refine memoP_ok (run_one mixed namesOK extOK prim0OK Tryz.func20 rfl) _ ?_ args H v H' hp
        intro m hm
        simp only [List.mem_cons, List.mem_nil_iff, or_false] at hm
        rcases hm with rfl
        · exact ⟨rfl, h3⟩
      | false =>
        rw [hq] at h
        clear hq
        exact prim0OK fid p h args H v H' hp
theorem pm5OK (h1 : MemoOK Tryz.prog begin0 memo1) (h2 : MemoOK Tryz.prog begin0 memo2) (h3 : MemoOK Tryz.prog begin0 memo3) (h4 : MemoOK Tryz.prog begin0 memo4) (h5 : MemoOK Tryz.prog begin0 memo5) : PrimOK Tryz.prog pm5 := by
  intro fid p h args H v H' hp
  unfold pm5 at h
  cases hq : Nat.beq fid 16 with
  | true =>
    rw [hq] at h
    cases h
    obtain rfl := Nat.eq_of_beq_eq_true hq
    refine memoP_ok (run_one mixed namesOK extOK prim0OK Tryz.func16 rfl) _ ?_ args H v H' hp
    intro m hm
    simp only [List.mem_cons, List.mem_nil_iff, or_false] at hm
    rcases hm with rfl
    · exact ⟨rfl, h1⟩
  | false =>
    rw [hq] at h
    clear hq
    cases hq : Nat.beq fid 19 with
    | true =>
      rw [hq] at h
      cases h
      obtain rfl := Nat.eq_of_beq_eq_true hq
      refine memoP_ok (run_one mixed namesOK extOK prim0OK Tryz.func19 rfl) _ ?_ args H v H' hp
      intro m hm
      simp only [List.mem_cons, List.mem_nil_iff, or_false] at hm
      rcases hm with rfl | rfl | rfl
      · exact ⟨rfl, h2⟩
      · exact ⟨rfl, h4⟩
      · exact ⟨rfl, h5⟩
    | false =>
      rw [hq] at h
      clear hq
      cases hq : Nat.beq fid 20 with
      | true =>
        rw [hq] at h
        cases h
        obtain rfl := Nat.eq_of_beq_eq_true hq
        refine memoP_ok (run_one mixed namesOK extOK prim0OK Tryz.func20 rfl) _ ?_ args H v H' hp
        intro m hm
        simp only [List.mem_cons, List.mem_nil_iff, or_false] at hm
        rcases hm with rfl
        · exact ⟨rfl, h3⟩
      | false =>
        rw [hq] at h
        clear hq
        exact prim0OK fid p h args H v H' hp
theorem pm6OK (h1 : MemoOK Tryz.prog begin0 memo1) (h2 : MemoOK Tryz.prog begin0 memo2) (h3 : MemoOK Tryz.prog begin0 memo3) (h4 : MemoOK Tryz.prog begin0 memo4) (h5 : MemoOK Tryz.prog begin0 memo5) (h6 : MemoOK Tryz.prog begin0 memo6) : PrimOK Tryz.prog pm6 := by
  intro fid p h args H v H' hp
  unfold pm6 at h
  cases hq : Nat.beq fid 16 with
  | true =>
    rw [hq] at h
    cases h
    obtain rfl := Nat.eq_of_beq_eq_true hq
    refine memoP_ok (run_one mixed namesOK extOK prim0OK Tryz.func16 rfl) _ ?_ args H v H' hp
    intro m hm
    simp only [List.mem_cons, List.mem_nil_iff, or_false] at hm
    rcases hm with rfl
    · exact ⟨rfl, h1⟩
  | false =>
    rw [hq] at h
    clear hq
    cases hq : Nat.beq fid 19 with
    | true =>
      rw [hq] at h
      cases h
      obtain rfl := Nat.eq_of_beq_eq_true hq
      refine memoP_ok (run_one mixed namesOK extOK prim0OK Tryz.func19 rfl) _ ?_ args H v H' hp
      intro m hm
      simp only [List.mem_cons, List.mem_nil_iff, or_false] at hm
      rcases hm with rfl | rfl | rfl | rfl
      · exact ⟨rfl, h2⟩
      · exact ⟨rfl, h4⟩
      · exact ⟨rfl, h5⟩
      · exact ⟨rfl, h6⟩
    | false =>
      rw [hq] at h
      clear hq
      cases hq : Nat.beq fid 20 with
      | true =>
        rw [hq] at h
        cases h
        obtain rfl := Nat.eq_of_beq_eq_true hq
        refine memoP_ok (run_one mixed namesOK extOK prim0OK Tryz.func20 rfl) _ ?_ args H v H' hp
        intro m hm
        simp only [List.mem_cons, List.mem_nil_iff, or_false] at hm
        rcases hm with rfl
        · exact ⟨rfl, h3⟩
      | false =>
        rw [hq] at h
        clear hq
        exact prim0OK fid p h args H v H' hp
theorem pm7OK (h1 : MemoOK Tryz.prog begin0 memo1) (h2 : MemoOK Tryz.prog begin0 memo2) (h3 : MemoOK Tryz.prog begin0 memo3) (h4 : MemoOK Tryz.prog begin0 memo4) (h5 : MemoOK Tryz.prog begin0 memo5) (h6 : MemoOK Tryz.prog begin0 memo6) (h7 : MemoOK Tryz.prog begin0 memo7) : PrimOK Tryz.prog pm7 := by
  intro fid p h args H v H' hp
  unfold pm7 at h
  cases hq : Nat.beq fid 16 with
  | true =>
    rw [hq] at h
    cases h
    obtain rfl := Nat.eq_of_beq_eq_true hq
    refine memoP_ok (run_one mixed namesOK extOK prim0OK Tryz.func16 rfl) _ ?_ args H v H' hp
    intro m hm
    simp only [List.mem_cons, List.mem_nil_iff, or_false] at hm
    rcases hm with rfl
    · exact ⟨rfl, h1⟩
  | false =>
    rw [hq] at h
    clear hq
    cases hq : Nat.beq fid 19 with
    | true =>
      rw [hq] at h
      cases h
      obtain rfl := Nat.eq_of_beq_eq_true hq
      refine memoP_ok (run_one mixed namesOK extOK prim0OK Tryz.func19 rfl) _ ?_ args H v H' hp
      intro m hm
      simp only [List.mem_cons, List.mem_nil_iff, or_false] at hm
      rcases hm with rfl | rfl | rfl | rfl | rfl
      · exact ⟨rfl, h2⟩
      · exact ⟨rfl, h4⟩
      · exact ⟨rfl, h5⟩
      · exact ⟨rfl, h6⟩
      · exact ⟨rfl, h7⟩
    | false =>
      rw [hq] at h
      clear hq
      cases hq : Nat.beq fid 20 with
      | true =>
        rw [hq] at h
        cases h
        obtain rfl := Nat.eq_of_beq_eq_true hq
        refine memoP_ok (run_one mixed namesOK extOK prim0OK Tryz.func20 rfl) _ ?_ args H v H' hp
        intro m hm
        simp only [List.mem_cons, List.mem_nil_iff, or_false] at hm
        rcases hm with rfl
        · exact ⟨rfl, h3⟩
      | false =>
        rw [hq] at h
        clear hq
        exact prim0OK fid p h args H v H' hp
theorem pm8OK (h1 : MemoOK Tryz.prog begin0 memo1) (h2 : MemoOK Tryz.prog begin0 memo2) (h3 : MemoOK Tryz.prog begin0 memo3) (h4 : MemoOK Tryz.prog begin0 memo4) (h5 : MemoOK Tryz.prog begin0 memo5) (h6 : MemoOK Tryz.prog begin0 memo6) (h7 : MemoOK Tryz.prog begin0 memo7) (h8 : MemoOK Tryz.prog begin0 memo8) : PrimOK Tryz.prog pm8 := by
  intro fid p h args H v H' hp
  unfold pm8 at h
  cases hq : Nat.beq fid 16 with
  | true =>
    rw [hq] at h
    cases h
    obtain rfl := Nat.eq_of_beq_eq_true hq
    refine memoP_ok (run_one mixed namesOK extOK prim0OK Tryz.func16 rfl) _ ?_ args H v H' hp
    intro m hm
    simp only [List.mem_cons, List.mem_nil_iff, or_false] at hm
    rcases hm with rfl
    · exact ⟨rfl, h1⟩
  | false =>
    rw [hq] at h
    clear hq
    cases hq : Nat.beq fid 19 with
    | true =>
      rw [hq] at h
      cases h
      obtain rfl := Nat.eq_of_beq_eq_true hq
      refine memoP_ok (run_one mixed namesOK extOK prim0OK Tryz.func19 rfl) _ ?_ args H v H' hp
      intro m hm
      simp only [List.mem_cons, List.mem_nil_iff, or_false] at hm
      rcases hm with rfl | rfl | rfl | rfl | rfl | rfl
      · exact ⟨rfl, h2⟩
      · exact ⟨rfl, h4⟩
      · exact ⟨rfl, h5⟩
      · exact ⟨rfl, h6⟩
      · exact ⟨rfl, h7⟩
      · exact ⟨rfl, h8⟩
    | false =>
      rw [hq] at h
      clear hq
      cases hq : Nat.beq fid 20 with
      | true =>
        rw [hq] at h
        cases h
        obtain rfl := Nat.eq_of_beq_eq_true hq
        refine memoP_ok (run_one mixed namesOK extOK prim0OK Tryz.func20 rfl) _ ?_ args H v H' hp
        intro m hm
        simp only [List.mem_cons, List.mem_nil_iff, or_false] at hm
        rcases hm with rfl
        · exact ⟨rfl, h3⟩
      | false =>
        rw [hq] at h
        clear hq
        exact prim0OK fid p h args H v H' hp
theorem pm9OK (h1 : MemoOK Tryz.prog begin0 memo1) (h2 : MemoOK Tryz.prog begin0 memo2) (h3 : MemoOK Tryz.prog begin0 memo3) (h4 : MemoOK Tryz.prog begin0 memo4) (h5 : MemoOK Tryz.prog begin0 memo5) (h6 : MemoOK Tryz.prog begin0 memo6) (h7 : MemoOK Tryz.prog begin0 memo7) (h8 : MemoOK Tryz.prog begin0 memo8) (h9 : MemoOK Tryz.prog begin0 memo9) : PrimOK Tryz.prog pm9 := by
  intro fid p h args H v H' hp
  unfold pm9 at h
  cases hq : Nat.beq fid 16 with
  | true =>
    rw [hq] at h
    cases h
    obtain rfl := Nat.eq_of_beq_eq_true hq
    refine memoP_ok (run_one mixed namesOK extOK prim0OK Tryz.func16 rfl) _ ?_ args H v H' hp
    intro m hm
    simp only [List.mem_cons, List.mem_nil_iff, or_false] at hm
    rcases hm with rfl
    · exact ⟨rfl, h1⟩
  | false =>
    rw [hq] at h
    clear hq
    cases hq : Nat.beq fid 19 with
    | true =>
      rw [hq] at h
      cases h
      obtain rfl := Nat.eq_of_beq_eq_true hq
      refine memoP_ok (run_one mixed namesOK extOK prim0OK Tryz.func19 rfl) _ ?_ args H v H' hp
      intro m hm
      simp only [List.mem_cons, List.mem_nil_iff, or_false] at hm
      rcases hm with rfl | rfl | rfl | rfl | rfl | rfl | rfl
      · exact ⟨rfl, h2⟩
      · exact ⟨rfl, h4⟩
      · exact ⟨rfl, h5⟩
      · exact ⟨rfl, h6⟩
      · exact ⟨rfl, h7⟩
      · exact ⟨rfl, h8⟩
      · exact ⟨rfl, h9⟩
    | false =>
      rw [hq] at h
      clear hq
      cases hq : Nat.beq fid 20 with
      | true =>
        rw [hq] at h
        cases h
        obtain rfl := Nat.eq_of_beq_eq_true hq
        refine memoP_ok (run_one mixed namesOK extOK prim0OK Tryz.func20 rfl) _ ?_ args H v H' hp
        intro m hm
        simp only [List.mem_cons, List.mem_nil_iff, or_false] at hm
        rcases hm with rfl
        · exact ⟨rfl, h3⟩
      | false =>
        rw [hq] at h
        clear hq
        exact prim0OK fid p h args H v H' hp
theorem pm10OK (h1 : MemoOK Tryz.prog begin0 memo1) (h2 : MemoOK Tryz.prog begin0 memo2) (h3 : MemoOK Tryz.prog begin0 memo3) (h4 : MemoOK Tryz.prog begin0 memo4) (h5 : MemoOK Tryz.prog begin0 memo5) (h6 : MemoOK Tryz.prog begin0 memo6) (h7 : MemoOK Tryz.prog begin0 memo7) (h8 : MemoOK Tryz.prog begin0 memo8) (h9 : MemoOK Tryz.prog begin0 memo9) (h10 : MemoOK Tryz.prog begin0 memo10) : PrimOK Tryz.prog pm10 := by
  intro fid p h args H v H' hp
  unfold pm10 at h
  cases hq : Nat.beq fid 16 with
  | true =>
    rw [hq] at h
    cases h
    obtain rfl := Nat.eq_of_beq_eq_true hq
    refine memoP_ok (run_one mixed namesOK extOK prim0OK Tryz.func16 rfl) _ ?_ args H v H' hp
    intro m hm
    simp only [List.mem_cons, List.mem_nil_iff, or_false] at hm
    rcases hm with rfl
    · exact ⟨rfl, h1⟩
  | false =>
    rw [hq] at h
    clear hq
    cases hq : Nat.beq fid 19 with
    | true =>
      rw [hq] at h
      cases h
      obtain rfl := Nat.eq_of_beq_eq_true hq
      refine memoP_ok (run_one mixed namesOK extOK prim0OK Tryz.func19 rfl) _ ?_ args H v H' hp
      intro m hm
      simp only [List.mem_cons, List.mem_nil_iff, or_false] at hm
      rcases hm with rfl | rfl | rfl | rfl | rfl | rfl | rfl | rfl
      · exact ⟨rfl, h2⟩
      · exact ⟨rfl, h4⟩
      · exact ⟨rfl, h5⟩
      · exact ⟨rfl, h6⟩
      · exact ⟨rfl, h7⟩
      · exact ⟨rfl, h8⟩
      · exact ⟨rfl, h9⟩
      · exact ⟨rfl, h10⟩
    | false =>
      rw [hq] at h
      clear hq
      cases hq : Nat.beq fid 20 with
      | true =>
        rw [hq] at h
        cases h
        obtain rfl := Nat.eq_of_beq_eq_true hq
        refine memoP_ok (run_one mixed namesOK extOK prim0OK Tryz.func20 rfl) _ ?_ args H v H' hp
        intro m hm
        simp only [List.mem_cons, List.mem_nil_iff, or_false] at hm
        rcases hm with rfl
        · exact ⟨rfl, h3⟩
      | false =>
        rw [hq] at h
        clear hq
        exact prim0OK fid p h args H v H' hp
theorem pm11OK (h1 : MemoOK Tryz.prog begin0 memo1) (h2 : MemoOK Tryz.prog begin0 memo2) (h3 : MemoOK Tryz.prog begin0 memo3) (h4 : MemoOK Tryz.prog begin0 memo4) (h5 : MemoOK Tryz.prog begin0 memo5) (h6 : MemoOK Tryz.prog begin0 memo6) (h7 : MemoOK Tryz.prog begin0 memo7) (h8 : MemoOK Tryz.prog begin0 memo8) (h9 : MemoOK Tryz.prog begin0 memo9) (h10 : MemoOK Tryz.prog begin0 memo10) (h11 : MemoOK Tryz.prog begin0 memo11) : PrimOK Tryz.prog pm11 := by
  intro fid p h args H v H' hp
  unfold pm11 at h
  cases hq : Nat.beq fid 16 with
  | true =>
    rw [hq] at h
    cases h
    obtain rfl := Nat.eq_of_beq_eq_true hq
    refine memoP_ok (run_one mixed namesOK extOK prim0OK Tryz.func16 rfl) _ ?_ args H v H' hp
    intro m hm
    simp only [List.mem_cons, List.mem_nil_iff, or_false] at hm
    rcases hm with rfl
    · exact ⟨rfl, h1⟩
  | false =>
    rw [hq] at h
    clear hq
    cases hq : Nat.beq fid 19 with
    | true =>
      rw [hq] at h
      cases h
      obtain rfl := Nat.eq_of_beq_eq_true hq
      refine memoP_ok (run_one mixed namesOK extOK prim0OK Tryz.func19 rfl) _ ?_ args H v H' hp
      intro m hm
      simp only [List.mem_cons, List.mem_nil_iff, or_false] at hm
      rcases hm with rfl | rfl | rfl | rfl | rfl | rfl | rfl | rfl | rfl
      · exact ⟨rfl, h2⟩
      · exact ⟨rfl, h4⟩
      · exact ⟨rfl, h5⟩
      · exact ⟨rfl, h6⟩
      · exact ⟨rfl, h7⟩
      · exact ⟨rfl, h8⟩
      · exact ⟨rfl, h9⟩
      · exact ⟨rfl, h10⟩
      · exact ⟨rfl, h11⟩
    | false =>
      rw [hq] at h
      clear hq
      cases hq : Nat.beq fid 20 with
      | true =>
        rw [hq] at h
        cases h
        obtain rfl := Nat.eq_of_beq_eq_true hq
        refine memoP_ok (run_one mixed namesOK extOK prim0OK Tryz.func20 rfl) _ ?_ args H v H' hp
        intro m hm
        simp only [List.mem_cons, List.mem_nil_iff, or_false] at hm
        rcases hm with rfl
        · exact ⟨rfl, h3⟩
      | false =>
        rw [hq] at h
        clear hq
        exact prim0OK fid p h args H v H' hp
theorem pm12OK (h1 : MemoOK Tryz.prog begin0 memo1) (h2 : MemoOK Tryz.prog begin0 memo2) (h3 : MemoOK Tryz.prog begin0 memo3) (h4 : MemoOK Tryz.prog begin0 memo4) (h5 : MemoOK Tryz.prog begin0 memo5) (h6 : MemoOK Tryz.prog begin0 memo6) (h7 : MemoOK Tryz.prog begin0 memo7) (h8 : MemoOK Tryz.prog begin0 memo8) (h9 : MemoOK Tryz.prog begin0 memo9) (h10 : MemoOK Tryz.prog begin0 memo10) (h11 : MemoOK Tryz.prog begin0 memo11) (h12 : MemoOK Tryz.prog begin0 memo12) : PrimOK Tryz.prog pm12 := by
  intro fid p h args H v H' hp
  unfold pm12 at h
  cases hq : Nat.beq fid 16 with
  | true =>
    rw [hq] at h
    cases h
    obtain rfl := Nat.eq_of_beq_eq_true hq
    refine memoP_ok (run_one mixed namesOK extOK prim0OK Tryz.func16 rfl) _ ?_ args H v H' hp
    intro m hm
    simp only [List.mem_cons, List.mem_nil_iff, or_false] at hm
    rcases hm with rfl
    · exact ⟨rfl, h1⟩
  | false =>
    rw [hq] at h
    clear hq
    cases hq : Nat.beq fid 19 with
    | true =>
      rw [hq] at h
      cases h
      obtain rfl := Nat.eq_of_beq_eq_true hq
      refine memoP_ok (run_one mixed namesOK extOK prim0OK Tryz.func19 rfl) _ ?_ args H v H' hp
      intro m hm
      simp only [List.mem_cons, List.mem_nil_iff, or_false] at hm
      rcases hm with rfl | rfl | rfl | rfl | rfl | rfl | rfl | rfl | rfl | rfl
      · exact ⟨rfl, h2⟩
      · exact ⟨rfl, h4⟩
      · exact ⟨rfl, h5⟩
      · exact ⟨rfl, h6⟩
      · exact ⟨rfl, h7⟩
      · exact ⟨rfl, h8⟩
      · exact ⟨rfl, h9⟩
      · exact ⟨rfl, h10⟩
      · exact ⟨rfl, h11⟩
      · exact ⟨rfl, h12⟩
    | false =>
      rw [hq] at h
      clear hq
      cases hq : Nat.beq fid 20 with
      | true =>
        rw [hq] at h
        cases h
        obtain rfl := Nat.eq_of_beq_eq_true hq
        refine memoP_ok (run_one mixed namesOK extOK prim0OK Tryz.func20 rfl) _ ?_ args H v H' hp
        intro m hm
        simp only [List.mem_cons, List.mem_nil_iff, or_false] at hm
        rcases hm with rfl
        · exact ⟨rfl, h3⟩
      | false =>
        rw [hq] at h
        clear hq
        exact prim0OK fid p h args H v H' hp
theorem pm13OK (h1 : MemoOK Tryz.prog begin0 memo1) (h2 : MemoOK Tryz.prog begin0 memo2) (h3 : MemoOK Tryz.prog begin0 memo3) (h4 : MemoOK Tryz.prog begin0 memo4) (h5 : MemoOK Tryz.prog begin0 memo5) (h6 : MemoOK Tryz.prog begin0 memo6) (h7 : MemoOK Tryz.prog begin0 memo7) (h8 : MemoOK Tryz.prog begin0 memo8) (h9 : MemoOK Tryz.prog begin0 memo9) (h10 : MemoOK Tryz.prog begin0 memo10) (h11 : MemoOK Tryz.prog begin0 memo11) (h12 : MemoOK Tryz.prog begin0 memo12) (h13 : MemoOK Tryz.prog begin0 memo13) : PrimOK Tryz.prog pm13 := by
  intro fid p h args H v H' hp
  unfold pm13 at h
  cases hq : Nat.beq fid 16 with
  | true =>
    rw [hq] at h
    cases h
    obtain rfl := Nat.eq_of_beq_eq_true hq
    refine memoP_ok (run_one mixed namesOK extOK prim0OK Tryz.func16 rfl) _ ?_ args H v H' hp
    intro m hm
    simp only [List.mem_cons, List.mem_nil_iff, or_false] at hm
    rcases hm with rfl
    · exact ⟨rfl, h1⟩
  | false =>
    rw [hq] at h
    clear hq
    cases hq : Nat.beq fid 19 with
    | true =>
      rw [hq] at h
      cases h
      obtain rfl := Nat.eq_of_beq_eq_true hq
      refine memoP_ok (run_one mixed namesOK extOK prim0OK Tryz.func19 rfl) _ ?_ args H v H' hp
      intro m hm
      simp only [List.mem_cons, List.mem_nil_iff, or_false] at hm
      rcases hm with rfl | rfl | rfl | rfl | rfl | rfl | rfl | rfl | rfl | rfl
      · exact ⟨rfl, h2⟩
      · exact ⟨rfl, h4⟩
      · exact ⟨rfl, h5⟩
      · exact ⟨rfl, h6⟩
      · exact ⟨rfl, h7⟩
      · exact ⟨rfl, h8⟩
      · exact ⟨rfl, h9⟩
      · exact ⟨rfl, h10⟩
      · exact ⟨rfl, h11⟩
      · exact ⟨rfl, h12⟩
    | false =>
      rw [hq] at h
      clear hq
      cases hq : Nat.beq fid 20 with
      | true =>
        rw [hq] at h
        cases h
        obtain rfl := Nat.eq_of_beq_eq_true hq
        refine memoP_ok (run_one mixed namesOK extOK prim0OK Tryz.func20 rfl) _ ?_ args H v H' hp
        intro m hm
        simp only [List.mem_cons, List.mem_nil_iff, or_false] at hm
        rcases hm with rfl | rfl
        · exact ⟨rfl, h3⟩
        · exact ⟨rfl, h13⟩
      | false =>
        rw [hq] at h
        clear hq
        exact prim0OK fid p h args H v H' hp
theorem pm14OK (h1 : MemoOK Tryz.prog begin0 memo1) (h2 : MemoOK Tryz.prog begin0 memo2) (h3 : MemoOK Tryz.prog begin0 memo3) (h4 : MemoOK Tryz.prog begin0 memo4) (h5 : MemoOK Tryz.prog begin0 memo5) (h6 : MemoOK Tryz.prog begin0 memo6) (h7 : MemoOK Tryz.prog begin0 memo7) (h8 : MemoOK Tryz.prog begin0 memo8) (h9 : MemoOK Tryz.prog begin0 memo9) (h10 : MemoOK Tryz.prog begin0 memo10) (h11 : MemoOK Tryz.prog begin0 memo11) (h12 : MemoOK Tryz.prog begin0 memo12) (h13 : MemoOK Tryz.prog begin0 memo13) (h14 : MemoOK Tryz.prog begin0 memo14) : PrimOK Tryz.prog pm14 := by
  intro fid p h args H v H' hp
  unfold pm14 at h
  cases hq : Nat.beq fid 16 with
  | true =>
    rw [hq] at h
    cases h
    obtain rfl := Nat.eq_of_beq_eq_true hq
    refine memoP_ok (run_one mixed namesOK extOK prim0OK Tryz.func16 rfl) _ ?_ args H v H' hp
    intro m hm
    simp only [List.mem_cons, List.mem_nil_iff, or_false] at hm
    rcases hm with rfl
    · exact ⟨rfl, h1⟩
  | false =>
    rw [hq] at h
    clear hq
    cases hq : Nat.beq fid 19 with
    | true =>
      rw [hq] at h
      cases h
      obtain rfl := Nat.eq_of_beq_eq_true hq
      refine memoP_ok (run_one mixed namesOK extOK prim0OK Tryz.func19 rfl) _ ?_ args H v H' hp
      intro m hm
      simp only [List.mem_cons, List.mem_nil_iff, or_false] at hm
      rcases hm with rfl | rfl | rfl | rfl | rfl | rfl | rfl | rfl | rfl | rfl | rfl
      · exact ⟨rfl, h2⟩
      · exact ⟨rfl, h4⟩
      · exact ⟨rfl, h5⟩
      · exact ⟨rfl, h6⟩
      · exact ⟨rfl, h7⟩
      · exact ⟨rfl, h8⟩
      · exact ⟨rfl, h9⟩
      · exact ⟨rfl, h10⟩
      · exact ⟨rfl, h11⟩
      · exact ⟨rfl, h12⟩
      · exact ⟨rfl, h14⟩
    | false =>
      rw [hq] at h
      clear hq
      cases hq : Nat.beq fid 20 with
      | true =>
        rw [hq] at h
        cases h
        obtain rfl := Nat.eq_of_beq_eq_true hq
        refine memoP_ok (run_one mixed namesOK extOK prim0OK Tryz.func20 rfl) _ ?_ args H v H' hp
        intro m hm
        simp only [List.mem_cons, List.mem_nil_iff, or_false] at hm
        rcases hm with rfl | rfl
        · exact ⟨rfl, h3⟩
        · exact ⟨rfl, h13⟩
      | false =>
        rw [hq] at h
        clear hq
        exact prim0OK fid p h args H v H' hp
end Go.Proofs.YtlomlkoimmpemaaGreatDoor.PairKnownRun
