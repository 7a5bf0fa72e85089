/- What def.Parse does, as a contract over the symbolic heap. Conditions: the listed variables hold what the row says. -/
import Derived.Test.YthljbjokonglhaaGreatDoorDfD5
namespace Go.Proofs.YthljbjokonglhaaGreatDoor.DfK
open Go Am Am.K DfEnv DfM LibP DfG
set_option linter.unusedVariables false
set_option linter.unusedSimpArgs false
set_option maxRecDepth 10000
abbrev wds (s : Str) : List Str := spl 32 s
abbrev hdw (s : Str) : Str := (wds s).headD []
/-- rows of words, and the names, as they are built -/
structure PS (H : Hp) (rx nx : AV) (rws : List AV) (ps : List Str) : Prop where
  r : Ow H 45 1 rx rws
  n : Ow H 9 1 nx (strs (ps.map hdw))
  len : rws.length = ps.length
  w : ∀ (i : Nat) (wx : AV) (s : Str), rws[i]? = some wx → ps[i]? = some s → Rw H 1 wx (strs (wds s))
  dw : ∀ wx ∈ rws, ∀ j ∈ rid wx, j ∉ rid rx ∧ j ∉ rid nx
  dn : ∀ j ∈ rid rx, j ∉ rid nx
theorem RD.nil (H : Hp) : RD H .slice0 [] [] := ⟨rfl, RL.nil H 6, fun i x t h => by simp at h⟩
end Go.Proofs.YthljbjokonglhaaGreatDoor.DfK
