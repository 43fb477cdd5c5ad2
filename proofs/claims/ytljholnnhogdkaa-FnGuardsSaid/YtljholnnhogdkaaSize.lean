/- The size functions' post. -/
import Derived.Test.YtljholnnhogdkaaMem
namespace Go.Proofs.Ytljholnnhogdkaa
open Go.ChangeShapes Go.WideShapes Go.ChangeAt Go.RowKit
def Sized (left : Int) (P : Prop) (w : World) (e : Ending) (w' : World) : Prop :=
  ∃ r : Int, e = .returned (.int .i64 r) ∧ r ≤ left ∧ (0 ≤ r → P) ∧ Below w.heap.size w w'
end Go.Proofs.Ytljholnnhogdkaa
