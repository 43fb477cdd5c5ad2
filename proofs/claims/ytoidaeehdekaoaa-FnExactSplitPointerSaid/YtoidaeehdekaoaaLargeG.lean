/- The walks of the exact laws on large objects and on SplitPointer. -/
import Derived.Test.YtoidaeehdekaoaaLargeE
import Derived.Test.YtoidaeehdekaoaaLargeF
namespace Go.Proofs.Ytoidaeehdekaoaa
open Go.ChangeShapes Go.WideShapes Go.ChangeAt Go.RowKit
set_option linter.unusedVariables false

theorem split_i (p : Int) (w : World) : Calls Try.prog 13 #[.int .i64 p] w fun e w' => e = .returned (if btw p 0 4095 = true then .tuple #[.int .i64 (p % 512), .int .i64 (p / 512), .bool true] else .tuple #[.int .i64 0, .int .i64 0, .bool false]) ∧ w' = w := by
  by_cases h1 : 0 ≤ p ∧ p ≤ 4095
  · rw [if_pos (btw_t h1.1 h1.2)]
    go_enter Try.func13, Try.ntmps13
    go_wp2_with go_in
    go_ret3
    exact ⟨rfl, rfl⟩
  · rw [btw_f h1, if_neg (by simp)]
    have h2 := btw_f h1
    clear h1
    go_enter Try.func13, Try.ntmps13
    go_wp2_with (go_at_call 31; refine (between_q _ _ _ _).mono ?_; rintro e w2 ⟨rfl, rfl⟩)
    go_ret3
    exact ⟨rfl, rfl⟩
theorem split_s (p : Int) (w : World) : Calls Try.prog 12 #[.int .i64 p] w fun e w' => e = .returned (if btw p 0 4095 = true then .tuple #[.int .i64 (p % 512), .int .i64 (p / 512), .bool true] else .tuple #[.int .i64 0, .int .i64 0, .bool false]) ∧ w' = w := by
  by_cases h1 : 0 ≤ p ∧ p ≤ 4095
  · rw [if_pos (btw_t h1.1 h1.2)]
    go_enter Try.func12, Try.ntmps12
    go_wp2_with go_in
    go_ret3
    exact ⟨rfl, rfl⟩
  · rw [btw_f h1, if_neg (by simp)]
    have h2 := btw_f h1
    clear h1
    go_enter Try.func12, Try.ntmps12
    go_wp2_with (go_at_call 30; refine (l01In_q _ _ _ _).mono ?_; rintro e w2 ⟨rfl, rfl⟩)
    go_ret3
    exact ⟨rfl, rfl⟩

set_option maxHeartbeats 4000000 in
theorem law_split (p : Int) (w : World) : Calls Try.prog 3 #[.int .i64 p] w fun e w' => e = .returned (.bool true) ∧ Below w.heap.size w w' := by
  have H1 := fun W => split_i p W
  have H2 := fun W => split_s p W
  cases hk : btw p 0 4095
  all_goals
    simp only [hk, if_true, if_false, Bool.false_eq_true] at H1 H2
    go_enter Try.func3, Try.ntmps3
    go_wp2_with (first | (go_at_call 12; refine (H2 _).mono ?_; rintro e w2 ⟨rfl, rfl⟩) | (go_at_call 13; refine (H1 _).mono ?_; rintro e w2 ⟨rfl, rfl⟩))
    go_ret
    exact ⟨rfl, by (repeat' (first | (with_reducible exact Below.refl _ _) | (with_reducible refine bel_alloc ?_ ?_ _) | (with_reducible refine Below.setCell ?_ ?_ _) | (with_reducible refine below_drewN ?_ _) | (with_reducible refine Below.drew ?_) | (with_reducible exact Nat.le_refl _) | (with_reducible assumption) | omega | (simp only [World.size_alloc, World.size_setCell, World.size_drew]; omega) | (simp; omega) | (simp; done)))⟩

set_option maxHeartbeats 4000000 in
theorem law_largeOk (P N S : Int) (w : World) : Calls Try.prog 4 #[.agg #[.int .i64 P, .int .i64 N, .int .i64 S]] w fun e w' => e = .returned (.bool true) ∧ Below w.heap.size w w' := by
  go_enter Try.func4, Try.ntmps4
  go_wp2_with fail
  refine (toLarge_any _ _ _ _).mono ?_
  rintro e w1 ⟨rfl, hb1⟩
  have b0 : w1.cell? ⟨w.heap.size, 0, none⟩ = some (.int .i64 P) := keep hb1 (by simp [go_sem])
  have b1 : w1.cell? ⟨w.heap.size, 1, none⟩ = some (.int .i64 N) := keep hb1 (by simp [go_sem])
  have b2 : w1.cell? ⟨w.heap.size, 2, none⟩ = some (.int .i64 S) := keep hb1 (by simp [go_sem])
  go_wp2_with fail
  refine (largeOk_s _ _ _ _).mono ?_
  rintro e w2 ⟨rfl, hb2⟩
  have b0 := keep hb2 b0
  have b1 := keep hb2 b1
  have b2 := keep hb2 b2
  go_wp2_with fail
  refine (toLarge_any _ _ _ _).mono ?_
  rintro e w3 ⟨rfl, hb3⟩
  go_wp2_with fail
  refine (largeOk_i _ _ _ _).mono ?_
  rintro e w4 ⟨rfl, hb4⟩
  go_wp2
  go_ret
  exact ⟨rfl, by (repeat' (first | (with_reducible exact Below.refl _ _) | (with_reducible refine bel_alloc ?_ ?_ _) | (with_reducible refine Below.setCell ?_ ?_ _) | (with_reducible refine below_drewN ?_ _) | (with_reducible refine Below.drew ?_) | (with_reducible refine bel_step hb1 ?_ ?_) | (with_reducible refine bel_step hb2 ?_ ?_) | (with_reducible refine bel_step hb3 ?_ ?_) | (with_reducible refine bel_step hb4 ?_ ?_) | (with_reducible exact Nat.le_refl _) | (with_reducible assumption) | omega | (simp only [World.size_alloc, World.size_setCell, World.size_drew]; omega) | (simp; omega) | (simp; done)))⟩
end Go.Proofs.Ytoidaeehdekaoaa
