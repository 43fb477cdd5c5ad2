/- Contracts of the two packages' small functions on numbers. -/
import Derived.Test.YtljholnnhogdkaaKit
namespace Go.Proofs.Ytljholnnhogdkaa
open Go.ChangeShapes Go.WideShapes Go.ChangeAt Go.RowKit
set_option linter.unusedVariables false

theorem between_q (n lo hi : Int) (w : World) :
    Calls Try.prog 32 #[.int .i64 n, .int .i64 lo, .int .i64 hi] w fun e w' => e = .returned (.bool (btw n lo hi)) ∧ w' = w := by
  by_cases h1 : lo ≤ n <;> by_cases h2 : n ≤ hi <;>
  · go_enter Try.func32, Try.ntmps32
    go_wp2
    go_ret
    exact ⟨by simp [btw, h1, h2], rfl⟩
theorem l01In_q (n lo hi : Int) (w : World) :
    Calls Try.prog 30 #[.int .i64 n, .int .i64 lo, .int .i64 hi] w fun e w' => e = .returned (.bool (btw n lo hi)) ∧ w' = w := by
  by_cases h1 : lo ≤ n <;> by_cases h2 : n ≤ hi <;>
  · go_enter Try.func30, Try.ntmps30
    go_wp2
    go_ret
    exact ⟨by simp [btw, h1, h2], rfl⟩
theorem between_b (n lo hi : Int) (w : World) {v : Bool} (hv : btw n lo hi = v) :
    Calls Try.prog 32 #[.int .i64 n, .int .i64 lo, .int .i64 hi] w fun e w' => e = .returned (.bool v) ∧ Below w.heap.size w w' :=
  (between_q n lo hi w).mono fun _ _ ⟨h1, h2⟩ => ⟨by rw [h1, hv], by rw [h2]; exact Below.refl _ _⟩
theorem l01In_b (n lo hi : Int) (w : World) {v : Bool} (hv : btw n lo hi = v) :
    Calls Try.prog 30 #[.int .i64 n, .int .i64 lo, .int .i64 hi] w fun e w' => e = .returned (.bool v) ∧ Below w.heap.size w w' :=
  (l01In_q n lo hi w).mono fun _ _ ⟨h1, h2⟩ => ⟨by rw [h1, hv], by rw [h2]; exact Below.refl _ _⟩
end Go.Proofs.Ytljholnnhogdkaa
