/- LargeOk and PagesFor, of the program and of the reference. -/
import Derived.Test.YtjimpmdelnnflaaNum
namespace Go.Proofs.Ytjimpmdelnnflaa
open Go.ChangeShapes Go.WideShapes Go.ChangeAt Go.RowKit
set_option linter.unusedVariables false

def pagesFor (S : Int) : Int := if 9 ≤ S ∧ S ≤ 1000 then (S + 15) / 16 else 0
theorem pagesFor_in {S : Int} (h : 9 ≤ S) (h' : S ≤ 1000) : pagesFor S = (S + 15) / 16 := if_pos ⟨h, h'⟩
theorem pagesFor_out {S : Int} (h : ¬ (9 ≤ S ∧ S ≤ 1000)) : pagesFor S = 0 := if_neg h
theorem pagesFor_bd (S : Int) : 0 ≤ pagesFor S ∧ pagesFor S ≤ 63 := by
  unfold pagesFor; split <;> omega

theorem pages_i (S : Int) (w : World) :
    Calls Try.prog 74 #[.int .i64 S] w fun e w' => e = .returned (.int .i64 (pagesFor S)) ∧ w' = w := by
  by_cases h1 : 9 ≤ S <;> by_cases h2 : S ≤ 1000
  all_goals
    go_enter Try.func74, Try.ntmps74
    go_wp2_with go_in
    go_ret
    exact ⟨ret_int (by unfold pagesFor; first | (rw [if_pos (by omega)]; omega) | (rw [if_neg (by omega)])), rfl⟩
theorem pages_s (S : Int) (w : World) :
    Calls Try.prog 80 #[.int .i64 S] w fun e w' => e = .returned (.int .i64 (pagesFor S)) ∧ w' = w := by
  by_cases h1 : 9 ≤ S <;> by_cases h2 : S ≤ 1000
  all_goals
    go_enter Try.func80, Try.ntmps80
    go_wp2_with go_in
    go_ret
    exact ⟨ret_int (by unfold pagesFor; first | (rw [if_pos (by omega)]; omega) | (rw [if_neg (by omega)])), rfl⟩

def lOk (P N S : Int) : Bool := decide (9 ≤ S) && decide (S ≤ 1000) && decide (N = pagesFor S) && decide (0 ≤ P) && decide (P ≤ 32 - N)
theorem lOk_yes {P N S : Int} (h : lOk P N S = true) : 9 ≤ S ∧ S ≤ 1000 ∧ N = (S + 15) / 16 ∧ 0 ≤ P ∧ P ≤ 32 - N := by
  simp only [lOk, Bool.and_eq_true, decide_eq_true_eq] at h
  obtain ⟨⟨⟨⟨h1, h2⟩, h3⟩, h4⟩, h5⟩ := h
  rw [pagesFor_in h1 h2] at h3
  exact ⟨h1, h2, h3, h4, h5⟩

theorem lOk_bd {P N S : Int} (h : lOk P N S = true) : 9 ≤ S ∧ S ≤ 1000 ∧ 1 ≤ N ∧ N ≤ 32 ∧ 0 ≤ P ∧ P ≤ 32 - N := by
  have := lOk_yes h
  omega

set_option maxHeartbeats 4000000 in
theorem largeOk_i (P N S : Int) (w : World) :
    Calls Try.prog 46 #[.agg #[.int .i64 P, .int .i64 N, .int .i64 S]] w fun e w' => e = .returned (.bool (lOk P N S)) ∧ Below w.heap.size w w' := by
  have hp := pagesFor_bd S
  have hwr : IntKind.i64.wrap (32 - pagesFor S) = 32 - pagesFor S := IntWalk.i64_in _ (by omega)
  rcases (by omega : ¬ (9 ≤ S ∧ S ≤ 1000) ∨ ((9 ≤ S ∧ S ≤ 1000) ∧ N ≠ pagesFor S) ∨ ((9 ≤ S ∧ S ≤ 1000) ∧ N = pagesFor S ∧ ¬ (0 ≤ P ∧ P ≤ 32 - pagesFor S)) ∨ ((9 ≤ S ∧ S ≤ 1000) ∧ N = pagesFor S ∧ (0 ≤ P ∧ P ≤ 32 - pagesFor S))) with h1 | ⟨h1, h2⟩ | ⟨h1, h2, h3⟩ | ⟨h1, h2, h3⟩
  all_goals
    first
    | have hb : btw S 9 1000 = true := by simp [btw]; omega
    | have hb : btw S 9 1000 = false := by simp [btw]; omega
    try first
    | have h2b : (N == pagesFor S) = true := by simpa using h2
    | have h2b : (N == pagesFor S) = false := by simpa using h2
    try first
    | have hb3 : btw P 0 (32 - pagesFor S) = true := by simp [btw]; omega
    | have hb3 : btw P 0 (32 - pagesFor S) = false := by simp [btw]; omega
    first
    | have HR := Lib.hid (show lOk P N S = true by simp [lOk]; omega)
    | have HR := Lib.hid (show lOk P N S = false by simp [lOk]; omega)
    try subst h2
    clear h1
    try clear h2
    try clear h3
    go_enter Try.func46, Try.ntmps46
    go_wp2
    go_quiet ((first | (go_at_call 67; exact Calls.quiet_of_same (between_q _ _ _ _)) | (go_at_call 74; exact Calls.quiet_of_same (pages_i _ _))))
    go_wp2
    go_ret
    exact ⟨by rw [HR.out]; simp [*], below_drewN ((Below.refl _ _).alloc (Nat.le_refl _) _) _⟩
set_option maxHeartbeats 4000000 in
theorem largeOk_s (P N S : Int) (w : World) :
    Calls Try.prog 57 #[.agg #[.int .i64 P, .int .i64 N, .int .i64 S]] w fun e w' => e = .returned (.bool (lOk P N S)) ∧ Below w.heap.size w w' := by
  have hp := pagesFor_bd S
  have hwr : IntKind.i64.wrap (32 - pagesFor S) = 32 - pagesFor S := IntWalk.i64_in _ (by omega)
  have hz : ¬ (9 ≤ S ∧ S ≤ 1000) ↔ ¬ 0 < pagesFor S := by unfold pagesFor; split <;> omega
  rcases (by omega : ¬ (9 ≤ S ∧ S ≤ 1000) ∨ ((9 ≤ S ∧ S ≤ 1000) ∧ N ≠ pagesFor S) ∨ ((9 ≤ S ∧ S ≤ 1000) ∧ N = pagesFor S ∧ ¬ (0 ≤ P ∧ P ≤ 32 - pagesFor S)) ∨ ((9 ≤ S ∧ S ≤ 1000) ∧ N = pagesFor S ∧ (0 ≤ P ∧ P ≤ 32 - pagesFor S))) with h1 | ⟨h1, h2⟩ | ⟨h1, h2, h3⟩ | ⟨h1, h2, h3⟩
  all_goals
    first
    | have hb : (0 : Int) < pagesFor S := by omega
    | have hb : ¬ (0 : Int) < pagesFor S := by omega
    try first
    | have h2b : (N == pagesFor S) = true := by simpa using h2
    | have h2b : (N == pagesFor S) = false := by simpa using h2
    try first
    | have hb3 : btw P 0 (32 - pagesFor S) = true := by simp [btw]; omega
    | have hb3 : btw P 0 (32 - pagesFor S) = false := by simp [btw]; omega
    first
    | have HR := Lib.hid (show lOk P N S = true by simp [lOk]; omega)
    | have HR := Lib.hid (show lOk P N S = false by simp [lOk]; omega)
    try subst h2
    clear h1 hz
    try clear h2
    try clear h3
    go_enter Try.func57, Try.ntmps57
    go_wp2_with (first | (go_at_call 80; refine (pages_s _ _).mono ?_; rintro e w' ⟨rfl, rfl⟩) | (go_at_call 77; refine (l01In_q _ _ _ _).mono ?_; rintro e w' ⟨rfl, rfl⟩))
    go_ret
    exact ⟨by rw [HR.out]; rfl, ((Below.refl _ _).alloc (Nat.le_refl _) _)⟩
end Go.Proofs.Ytjimpmdelnnflaa
