/- Contracts of the laws' functions on []int: szIntS, toIntS, eqIntS, markIntS, heldIntS; copyInts. -/
import Derived.Test.YtfdpplamebmdhaaMem
import Derived.Test.YtfdpplamebmdhaaInfo
namespace Go.Proofs.Ytfdpplamebmdhaa
open Go.ChangeShapes Go.WideShapes Go.ChangeAt Go.RowKit
set_option linter.unusedVariables false


/-- A slice of ints of the call's own. -/
abbrev OwI (w : World) (lo hi : Nat) (A : Option Addr) (c : Nat) (xs : List Int) : Prop := Ow w lo hi 3 1 A xs.length c (iv xs)

def szN (left n : Int) : Int := if left - n < 0 then -1 else left - n
/-- The post of a function that makes a slice of ints. -/
def MadeI (xs : List Int) (w : World) (e : Ending) (w' : World) : Prop :=
  ∃ A c, e = .returned (.slice A xs.length c) ∧ OwI w' w.heap.size w'.heap.size A c xs ∧ Below w.heap.size w w'

/-- The numbers that a mark writes. -/
def marks (k : Int) (n : Nat) : List Int := (List.range n).map fun t => k + (t : Nat)
@[simp] theorem marks_length (k : Int) (n : Nat) : (marks k n).length = n := by simp [marks]
theorem marks_at {k : Int} {n t : Nat} (h : t < n) : (marks k n)[t]? = some (k + t) := by simp [marks, h]

end Go.Proofs.Ytfdpplamebmdhaa
