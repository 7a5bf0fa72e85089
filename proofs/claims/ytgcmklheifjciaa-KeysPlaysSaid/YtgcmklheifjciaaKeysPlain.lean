/- The plain side of package keys: what Put, Get and All compute, on lists. -/
set_option linter.unusedVariables false
namespace Go.Proofs.Ytgcmklheifjciaa.Ky
abbrev K := ByteArray × ByteArray
/-- the first ID under a key -/
def get (L : List (K × Int)) (k : K) : Option Int := (L.find? (fun p => decide (p.1 = k))).map (·.2)
/-- what Put answers, and what is there behind it -/
def put (most : Nat) (L : List (K × Int)) (k : K) (id : Int) : Int × Bool × List (K × Int) :=
  match get L k with
  | some had => (had, false, L)
  | none => (id, true, (if L.length = most then L.tail else L) ++ [(k, id)])
end Go.Proofs.Ytgcmklheifjciaa.Ky
