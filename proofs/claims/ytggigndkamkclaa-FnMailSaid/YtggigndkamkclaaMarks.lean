/- The numbers that a mark writes, for structs of two and of three ints. -/
import Derived.Test.YtggigndkamkclaaSet
import Derived.Test.YtggigndkamkclaaFlat3
namespace Go.Proofs.Ytggigndkamkclaa
open Go.ChangeShapes Go.WideShapes Go.ChangeAt Go.RowKit
set_option linter.unusedVariables false
def m2 (k : Int) (n : Nat) : List (Int × Int) := (List.range n).map fun j => (k + (2 * (j : Nat) : Int), k + (2 * (j : Nat) : Int) + 1)
def m3 (k : Int) (n : Nat) : List (Int × Int × Int) := (List.range n).map fun j => (k + (3 * (j : Nat) : Int), k + (3 * (j : Nat) : Int) + 1, k + (3 * (j : Nat) : Int) + 1 + 1)
@[simp] theorem m2_length (k : Int) (n : Nat) : (m2 k n).length = n := by simp [m2]
@[simp] theorem m3_length (k : Int) (n : Nat) : (m3 k n).length = n := by simp [m3]
end Go.Proofs.Ytggigndkamkclaa
