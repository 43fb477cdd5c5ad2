/- FnLastIn, the plain law: a cache of one class, filled. -/
import Derived.Test.YtmfomflmbhognaaCacheS
namespace Go.Proofs.Ytmfomflmbhognaa
open Go.ChangeShapes Go.WideShapes Go.ChangeAt Go.RowKit

/-- The first i addresses in class κ. -/
def ups (i : Nat) : List Int := (List.range i).map (fun j : Nat => 8 * (j : Int))
def one (κ i : Nat) : List (List Int) := (List.replicate 4 ([] : List Int)).set κ (ups i)
theorem one_ok : ∀ κ, κ < 4 → ∀ i, i ≤ 8 → cOkB (one κ i) = true ∧ hasL (one κ i) κ = true := by decide +kernel
theorem one_nine : ∀ κ, κ < 4 → cOkB (one κ 9) = false := by decide +kernel
theorem ups_succ (i : Nat) : ups (i + 1) = ups i ++ [8 * (i : Int)] := by
  rw [ups, List.range_succ, List.map_append]
  rfl
theorem one_len (κ i : Nat) : (one κ i).length = 4 := by simp [one]
theorem one_at {κ : Nat} (h : κ < 4) (i : Nat) (h2 : κ < (one κ i).length) : (one κ i)[κ] = ups i := by simp [one]
theorem one_set {κ : Nat} (h : κ < 4) (i j : Nat) : (one κ i).set κ (ups j) = one κ j := by simp [one]
theorem one_rows (κ i : Nat) (h : i ≤ 9) : Rows (one κ i) := by
  refine ⟨by rw [one_len]; omega, fun l hl => ?_⟩
  rcases List.mem_or_eq_of_mem_set hl with h1 | h1
  · rw [List.eq_of_mem_replicate h1]
    simp
  · rw [h1]
    simp [ups]
    omega
end Go.Proofs.Ytmfomflmbhognaa
