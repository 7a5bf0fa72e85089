/-
  No cell of these rows narrows 'for every input' (looked for: loops, veiled, ifaces, maps, wideKeys, modest, calm, conditions, laid).
  DERIVED. THE GIVEN ROWS OF THIS SEAT. 5 by the template 'for every input the law returns true; each argument reads behind the call as it read before'; 0 by the template 'total and deterministic' (their statements: YtphfncjglodgbaaTotals.lean).
  GIVEN WITH THE SEED: the statements are not yours to turn. If you find one false, say at which input.
  Laid BY PROGRAM, IN A SANDBOX (cutbox-rows.mjs): the forced cells as the released guide's own fill.sh prints them over the translation 94f43641b52061f8… (all of the seat's roots in one cut). By AI agents, Wed Nov 11 2026. No macro, syntax, notation, axiom, sorry.
-/
import Derived.Test.YtphfncjglodgbaaChecked
import GoSem.Claim
import GoSem.ClaimJoined
import GoSem.ClaimMapViews
import Derived.JoinedTies
import Derived.KernelRfl
namespace Go.Proofs.Ytphfncjglodgbaa
/- THE CELL 'sum', in the pinned program and in every row, IS THE sha256 OF THE DUMP (.gsa) THAT YtphfncjglodgbaaProg.lean LOADS. Nothing in Lean hashes anything: it is a label: what it is worth is what the hold of that sum in a sandbox is worth. -/
noncomputable def Try.pinned : Pinned := { name := "ytphfncjglodgbaa", sum := "94f43641b52061f841753a441c20414369b05c33042518fe659fce2d91a0aa4d", checked := Try.checked }
namespace Rows
def none {H : Type} : Left H := { results := [], args := [] }

/-- 'outriderlaw13.BackKnown': WHATEVER THE INPUT: true; the input reads as it did. -/
def backKnownSpec : ChangeSpec := { name := "backKnown", fn := fun _ => fun
  | [] => { results := [.lit (.bool true)], args := [] }
  | _ => none }
def backKnownRow : OpenClaim := { program := "ytphfncjglodgbaa", sum := "94f43641b52061f841753a441c20414369b05c33042518fe659fce2d91a0aa4d", func := "outrider/outriderlaw13.BackKnown", spec := "backKnown", apart := false }
def BackKnownSaid : Prop := backKnownRow.holds Try.pinned (OpenSpec.ofChange backKnownSpec)

/-- ITS FALSE NEIGHBOUR: 'it returns false'. Refute it at one input. -/
def backKnownWrong : ChangeSpec := { name := "backKnown", fn := fun _ => fun
  | [] => { results := [.lit (.bool false)], args := [] }
  | _ => none }
def BackKnownWrongFalsely : Prop := backKnownRow.holds Try.pinned (OpenSpec.ofChange backKnownWrong)

/-- 'outriderlaw13.BackSays': WHATEVER THE INPUT: true; the input reads as it did. -/
def backSaysSpec : ChangeSpec := { name := "backSays", fn := fun _ => fun
  | [d1, d2, d3] => { results := [.lit (.bool true)], args := [d1, d2, d3] }
  | _ => none }
def backSaysRow : OpenClaim := { program := "ytphfncjglodgbaa", sum := "94f43641b52061f841753a441c20414369b05c33042518fe659fce2d91a0aa4d", func := "outrider/outriderlaw13.BackSays", spec := "backSays", apart := false }
def BackSaysSaid : Prop := backSaysRow.holds Try.pinned (OpenSpec.ofChange backSaysSpec)

/-- ITS FALSE NEIGHBOUR: 'it returns false'. Refute it at one input. -/
def backSaysWrong : ChangeSpec := { name := "backSays", fn := fun _ => fun
  | [d1, d2, d3] => { results := [.lit (.bool false)], args := [d1, d2, d3] }
  | _ => none }
def BackSaysWrongFalsely : Prop := backSaysRow.holds Try.pinned (OpenSpec.ofChange backSaysWrong)

/-- 'outriderlaw13.BackTries': WHATEVER THE INPUT: true; the input reads as it did. -/
def backTriesSpec : ChangeSpec := { name := "backTries", fn := fun _ => fun
  | [d1, d2, d3] => { results := [.lit (.bool true)], args := [d1, d2, d3] }
  | _ => none }
def backTriesRow : OpenClaim := { program := "ytphfncjglodgbaa", sum := "94f43641b52061f841753a441c20414369b05c33042518fe659fce2d91a0aa4d", func := "outrider/outriderlaw13.BackTries", spec := "backTries", apart := false }
def BackTriesSaid : Prop := backTriesRow.holds Try.pinned (OpenSpec.ofChange backTriesSpec)

/-- ITS FALSE NEIGHBOUR: 'it returns false'. Refute it at one input. -/
def backTriesWrong : ChangeSpec := { name := "backTries", fn := fun _ => fun
  | [d1, d2, d3] => { results := [.lit (.bool false)], args := [d1, d2, d3] }
  | _ => none }
def BackTriesWrongFalsely : Prop := backTriesRow.holds Try.pinned (OpenSpec.ofChange backTriesWrong)

/-- 'outriderlaw13.BackSums': WHATEVER THE INPUT: true; the input reads as it did. -/
def backSumsSpec : ChangeSpec := { name := "backSums", fn := fun _ => fun
  | [d1, d2] => { results := [.lit (.bool true)], args := [d1, d2] }
  | _ => none }
def backSumsRow : OpenClaim := { program := "ytphfncjglodgbaa", sum := "94f43641b52061f841753a441c20414369b05c33042518fe659fce2d91a0aa4d", func := "outrider/outriderlaw13.BackSums", spec := "backSums", apart := false }
def BackSumsSaid : Prop := backSumsRow.holds Try.pinned (OpenSpec.ofChange backSumsSpec)

/-- ITS FALSE NEIGHBOUR: 'it returns false'. Refute it at one input. -/
def backSumsWrong : ChangeSpec := { name := "backSums", fn := fun _ => fun
  | [d1, d2] => { results := [.lit (.bool false)], args := [d1, d2] }
  | _ => none }
def BackSumsWrongFalsely : Prop := backSumsRow.holds Try.pinned (OpenSpec.ofChange backSumsWrong)

/-- 'outriderlaw13.BackMore': WHATEVER THE INPUT: true; the input reads as it did. -/
def backMoreSpec : ChangeSpec := { name := "backMore", fn := fun _ => fun
  | [d1, d2, d3, d4] => { results := [.lit (.bool true)], args := [d1, d2, d3, d4] }
  | _ => none }
def backMoreRow : OpenClaim := { program := "ytphfncjglodgbaa", sum := "94f43641b52061f841753a441c20414369b05c33042518fe659fce2d91a0aa4d", func := "outrider/outriderlaw13.BackMore", spec := "backMore", apart := false }
def BackMoreSaid : Prop := backMoreRow.holds Try.pinned (OpenSpec.ofChange backMoreSpec)

/-- ITS FALSE NEIGHBOUR: 'it returns false'. Refute it at one input. -/
def backMoreWrong : ChangeSpec := { name := "backMore", fn := fun _ => fun
  | [d1, d2, d3, d4] => { results := [.lit (.bool false)], args := [d1, d2, d3, d4] }
  | _ => none }
def BackMoreWrongFalsely : Prop := backMoreRow.holds Try.pinned (OpenSpec.ofChange backMoreWrong)

/- THE SECOND FORM. 'bulk': how many values and letters a reading holds, each counted each time it is reached (what is shared counts as often as it is met; a slice's spare places count too). A statement '..UptoSaid' is the law's where the arguments, and the package variables that the reading takes, are together of bulk at most 1048576: NARROWER than '..Said'. Prove '..Said' where nothing that the law and all that it calls make is longer than what came in: it says more and counts as full. Else prove '..UptoSaid'. A law counts once. -/
mutual
def uptoBulk {H : Type} : DataW H → Nat
  | .lit (.string bytes) => bytes.length + 1
  | .lit _ => 1
  | .nil => 1
  | .ptr d => uptoBulk d + 1
  | .slice elems spare => uptoBulkAll elems + uptoBulkAll spare + 1
  | .agg parts => uptoBulkAll parts + 1
  | .iface _ d => uptoBulk d + 1
  | .map entries => uptoBulkEntries entries + 1
  | .held _ => 1
def uptoBulkAll {H : Type} : List (DataW H) → Nat
  | [] => 0
  | d :: r => uptoBulk d + uptoBulkAll r
def uptoBulkEntries {H : Type} : List (Lit × DataW H) → Nat
  | [] => 0
  | x :: r => uptoBulkEntry x + uptoBulkEntries r
def uptoBulkEntry {H : Type} : Lit × DataW H → Nat
  | (.string bytes, d) => bytes.length + uptoBulk d + 1
  | (_, d) => uptoBulk d + 1
 end
def uptoSmall : (H : Type) → List (DataW H) → Bool := fun _ ds => decide (uptoBulkAll ds ≤ 1048576)
def OpenSpec.upto (s : _root_.Go.ChangeSpec) : _root_.Go.OpenSpec := { _root_.Go.OpenSpec.ofChange s with cond := some uptoSmall }

/-- 'outriderlaw13.BackKnown', WHERE WHAT IT READS IS OF BULK AT MOST 1048576: true; the input reads as it did. -/
def backKnownUptoRow : OpenClaim := { program := "ytphfncjglodgbaa", sum := "94f43641b52061f841753a441c20414369b05c33042518fe659fce2d91a0aa4d", func := "outrider/outriderlaw13.BackKnown", spec := "backKnown", apart := false, narrowed := true }
def BackKnownUptoSaid : Prop := backKnownUptoRow.holds Try.pinned (OpenSpec.upto backKnownSpec)

/-- 'outriderlaw13.BackSays', WHERE WHAT IT READS IS OF BULK AT MOST 1048576: true; the input reads as it did. -/
def backSaysUptoRow : OpenClaim := { program := "ytphfncjglodgbaa", sum := "94f43641b52061f841753a441c20414369b05c33042518fe659fce2d91a0aa4d", func := "outrider/outriderlaw13.BackSays", spec := "backSays", apart := false, narrowed := true }
def BackSaysUptoSaid : Prop := backSaysUptoRow.holds Try.pinned (OpenSpec.upto backSaysSpec)

/-- 'outriderlaw13.BackTries', WHERE WHAT IT READS IS OF BULK AT MOST 1048576: true; the input reads as it did. -/
def backTriesUptoRow : OpenClaim := { program := "ytphfncjglodgbaa", sum := "94f43641b52061f841753a441c20414369b05c33042518fe659fce2d91a0aa4d", func := "outrider/outriderlaw13.BackTries", spec := "backTries", apart := false, narrowed := true }
def BackTriesUptoSaid : Prop := backTriesUptoRow.holds Try.pinned (OpenSpec.upto backTriesSpec)

/-- 'outriderlaw13.BackSums', WHERE WHAT IT READS IS OF BULK AT MOST 1048576: true; the input reads as it did. -/
def backSumsUptoRow : OpenClaim := { program := "ytphfncjglodgbaa", sum := "94f43641b52061f841753a441c20414369b05c33042518fe659fce2d91a0aa4d", func := "outrider/outriderlaw13.BackSums", spec := "backSums", apart := false, narrowed := true }
def BackSumsUptoSaid : Prop := backSumsUptoRow.holds Try.pinned (OpenSpec.upto backSumsSpec)

/-- 'outriderlaw13.BackMore', WHERE WHAT IT READS IS OF BULK AT MOST 1048576: true; the input reads as it did. -/
def backMoreUptoRow : OpenClaim := { program := "ytphfncjglodgbaa", sum := "94f43641b52061f841753a441c20414369b05c33042518fe659fce2d91a0aa4d", func := "outrider/outriderlaw13.BackMore", spec := "backMore", apart := false, narrowed := true }
def BackMoreUptoSaid : Prop := backMoreUptoRow.holds Try.pinned (OpenSpec.upto backMoreSpec)

end Rows
end Go.Proofs.Ytphfncjglodgbaa
