/- SplitPointer, of the program and of the reference. -/
import Derived.Test.YtlohnaodoniajaaNum
namespace Go.Proofs.Ytlohnaodoniajaa
open Go.ChangeShapes Go.WideShapes Go.ChangeAt Go.RowKit
set_option linter.unusedVariables false

theorem split_i (p : Int) (w : World) : Calls Try.prog 37 #[.int .i64 p] w fun e w' => e = .returned (if btw p 0 4095 = true then .tuple #[.int .i64 (p % 512), .int .i64 (p / 512), .bool true] else .tuple #[.int .i64 0, .int .i64 0, .bool false]) ∧ w' = w := by
  by_cases h1 : 0 ≤ p ∧ p ≤ 4095
  · rw [if_pos (btw_t h1.1 h1.2)]
    go_enter Try.func37, Try.ntmps37
    go_wp2_with go_in
    go_ret3
    exact ⟨rfl, rfl⟩
  · rw [btw_f h1, if_neg (by simp)]
    have h2 := btw_f h1
    clear h1
    go_enter Try.func37, Try.ntmps37
    go_wp2_with (go_at_call 27; refine (between_q _ _ _ _).mono ?_; rintro e w2 ⟨rfl, rfl⟩)
    go_ret3
    exact ⟨rfl, rfl⟩
theorem split_s (p : Int) (w : World) : Calls Try.prog 38 #[.int .i64 p] w fun e w' => e = .returned (if btw p 0 4095 = true then .tuple #[.int .i64 (p % 512), .int .i64 (p / 512), .bool true] else .tuple #[.int .i64 0, .int .i64 0, .bool false]) ∧ w' = w := by
  by_cases h1 : 0 ≤ p ∧ p ≤ 4095
  · rw [if_pos (btw_t h1.1 h1.2)]
    go_enter Try.func38, Try.ntmps38
    go_wp2_with go_in
    go_ret3
    exact ⟨rfl, rfl⟩
  · rw [btw_f h1, if_neg (by simp)]
    have h2 := btw_f h1
    clear h1
    go_enter Try.func38, Try.ntmps38
    go_wp2_with (go_at_call 26; refine (l01In_q _ _ _ _).mono ?_; rintro e w2 ⟨rfl, rfl⟩)
    go_ret3
    exact ⟨rfl, rfl⟩

end Go.Proofs.Ytlohnaodoniajaa
