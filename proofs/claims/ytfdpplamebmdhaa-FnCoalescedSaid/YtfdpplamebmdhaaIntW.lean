/- The laws' functions on []int, with sets of blocks. -/
import Derived.Test.YtfdpplamebmdhaaIntS
import Derived.Test.YtfdpplamebmdhaaSet
import Derived.Test.YtfdpplamebmdhaaSize
namespace Go.Proofs.Ytfdpplamebmdhaa
open Go.ChangeShapes Go.WideShapes Go.ChangeAt Go.RowKit
set_option linter.unusedVariables false

def MadeIntSW (xs : List Int) (w : World) (e : Ending) (w' : World) : Prop :=
  ∃ A c S, e = .returned (.slice A xs.length c) ∧ (xs.length ≤ c ∧ c ≤ maxLen) ∧ Wr w' S A (iv xs) ∧ New S w w' ∧ Below w.heap.size w w'
end Go.Proofs.Ytfdpplamebmdhaa
