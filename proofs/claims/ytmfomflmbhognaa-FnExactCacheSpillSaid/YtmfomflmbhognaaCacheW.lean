/- A bound of all that a cache holds. -/
import Derived.Test.YtmfomflmbhognaaCacheA
namespace Go.Proofs.Ytmfomflmbhognaa
open Go.ChangeShapes Go.WideShapes Go.ChangeAt Go.RowKit
theorem tot_bd {xss : List (List Int)} (h : Rows xss) : (tot xss : Int) ≤ 1099511627776 := by
  have := tot_le h.2
  have h2 : xss.length * 1048576 ≤ 1048576 * 1048576 := Nat.mul_le_mul_right _ h.1
  omega
end Go.Proofs.Ytmfomflmbhognaa
