/- LargeHas, LargeOffset, of the program and of the reference. -/
import Derived.Test.YtjimpmdelnnflaaLargeA
namespace Go.Proofs.Ytjimpmdelnnflaa
open Go.ChangeShapes Go.WideShapes Go.ChangeAt Go.RowKit
set_option linter.unusedVariables false

def lHas (P N S A : Int) : Bool := lOk P N S && decide (16 * P ≤ A) && decide (A < 16 * P + S)
theorem lHas_yes {P N S A : Int} (h : lHas P N S A = true) : lOk P N S = true ∧ 16 * P ≤ A ∧ A < 16 * P + S := by
  simpa [lHas, and_assoc] using h
set_option maxHeartbeats 4000000 in
theorem largeHas_i (P N S A : Int) (w : World) :
    Calls Try.prog 71 #[.agg #[.int .i64 P, .int .i64 N, .int .i64 S], .int .i64 A] w fun e w' => e = .returned (.bool (lHas P N S A)) ∧ Below w.heap.size w w' := by
  cases hk : lOk P N S with
  | false =>
    have HR := Lib.hid (show lHas P N S A = false by simp [lHas, hk])
    go_enter Try.func71, Try.ntmps71
    go_wp2_with (first | (go_at_call 46; refine (largeOk_i _ _ _ _).mono ?_; rintro e w1 ⟨rfl, hb⟩; obtain ⟨hc, hf⟩ := bcell hb))
    go_ret
    exact ⟨by rw [HR.out]; first | rfl | (simp; omega), ((Below.refl _ _).alloc (Nat.le_refl _) _).trans (hb.mono (by simp))⟩
  | true =>
    have hy := lOk_bd hk
    by_cases h1 : 16 * P ≤ A ∧ A < 16 * P + S
    all_goals
      first
      | have HB : btw A (P * 16) (P * 16 + S - 1) = true := btw_t (by omega) (by omega)
      | have HB : btw A (P * 16) (P * 16 + S - 1) = false := btw_f (by omega)
      first
      | have HR := Lib.hid (show lHas P N S A = true by simp [lHas, hk]; omega)
      | have HR := Lib.hid (show lHas P N S A = false by simp [lHas, hk]; omega)
      clear h1
      go_enter Try.func71, Try.ntmps71
      go_wp2_with (first | (go_at_call 46; refine (largeOk_i _ _ _ _).mono ?_; rintro e w1 ⟨rfl, hb⟩; obtain ⟨hc, hf⟩ := bcell hb) | (go_at_call 67; refine (between_q _ _ _ _).mono ?_; rintro e w2 ⟨rfl, rfl⟩))
      go_ret
      exact ⟨by rw [HR.out]; first | rfl | (simp; omega), ((Below.refl _ _).alloc (Nat.le_refl _) _).trans (hb.mono (by simp))⟩
set_option maxHeartbeats 4000000 in
theorem largeHas_s (P N S A : Int) (w : World) :
    Calls Try.prog 49 #[.agg #[.int .i64 P, .int .i64 N, .int .i64 S], .int .i64 A] w fun e w' => e = .returned (.bool (lHas P N S A)) ∧ Below w.heap.size w w' := by
  cases hk : lOk P N S with
  | false =>
    have HR := Lib.hid (show lHas P N S A = false by simp [lHas, hk])
    go_enter Try.func49, Try.ntmps49
    go_wp2_with (first | (go_at_call 57; refine (largeOk_s _ _ _ _).mono ?_; rintro e w1 ⟨rfl, hb⟩; obtain ⟨hc, hf⟩ := bcell hb))
    go_ret
    exact ⟨by rw [HR.out]; first | rfl | (simp; omega), ((Below.refl _ _).alloc (Nat.le_refl _) _).trans (hb.mono (by simp))⟩
  | true =>
    have hy := lOk_bd hk
    rcases (by omega : ¬ P * 16 ≤ A ∨ (P * 16 ≤ A ∧ ¬ A < P * 16 + S) ∨ (P * 16 ≤ A ∧ A < P * 16 + S)) with h1 | ⟨h1, h2⟩ | ⟨h1, h2⟩
    all_goals
      first
      | have HR := Lib.hid (show lHas P N S A = true by simp [lHas, hk]; omega)
      | have HR := Lib.hid (show lHas P N S A = false by simp [lHas, hk]; omega)
      go_enter Try.func49, Try.ntmps49
      go_wp2_with (first | (go_at_call 57; refine (largeOk_s _ _ _ _).mono ?_; rintro e w1 ⟨rfl, hb⟩; obtain ⟨hc, hf⟩ := bcell hb))
      go_ret
      exact ⟨by rw [HR.out]; first | rfl | (simp; omega), ((Below.refl _ _).alloc (Nat.le_refl _) _).trans (hb.mono (by simp))⟩

def lOff (P N S A : Int) : Int := if lHas P N S A = true then A - 16 * P else -1
set_option maxHeartbeats 4000000 in
theorem largeOffset_i (P N S A : Int) (w : World) :
    Calls Try.prog 72 #[.agg #[.int .i64 P, .int .i64 N, .int .i64 S], .int .i64 A] w fun e w' => e = .returned (.int .i64 (lOff P N S A)) ∧ Below w.heap.size w w' := by
  cases hk : lHas P N S A with
  | false =>
    have HR := Lib.hid (show lOff P N S A = -1 by simp [lOff, hk])
    go_enter Try.func72, Try.ntmps72
    go_wp2_with (first | (go_at_call 71; refine (largeHas_i _ _ _ _ _).mono ?_; rintro e w1 ⟨rfl, hb⟩; obtain ⟨hc, hf⟩ := bcell hb))
    go_ret
    exact ⟨by rw [HR.out]; first | rfl | (simp; omega), ((Below.refl _ _).alloc (Nat.le_refl _) _).trans (hb.mono (by simp))⟩
  | true =>
    have hy := lHas_yes hk
    have hy2 := lOk_bd hy.1
    have HR := Lib.hid (show lOff P N S A = A - P * 16 by simp [lOff, hk]; omega)
    have hy1 := hy.2
    clear hy
    go_enter Try.func72, Try.ntmps72
    go_wp2_with (first | (go_at_call 71; refine (largeHas_i _ _ _ _ _).mono ?_; rintro e w1 ⟨rfl, hb⟩; obtain ⟨hc, hf⟩ := bcell hb))
    go_ret
    exact ⟨by rw [HR.out]; first | rfl | (simp; omega), ((Below.refl _ _).alloc (Nat.le_refl _) _).trans (hb.mono (by simp))⟩
set_option maxHeartbeats 4000000 in
theorem largeOffset_s (P N S A : Int) (w : World) :
    Calls Try.prog 50 #[.agg #[.int .i64 P, .int .i64 N, .int .i64 S], .int .i64 A] w fun e w' => e = .returned (.int .i64 (lOff P N S A)) ∧ Below w.heap.size w w' := by
  cases hk : lHas P N S A with
  | false =>
    have HR := Lib.hid (show lOff P N S A = -1 by simp [lOff, hk])
    go_enter Try.func50, Try.ntmps50
    go_wp2_with (first | (go_at_call 49; refine (largeHas_s _ _ _ _ _).mono ?_; rintro e w1 ⟨rfl, hb⟩; obtain ⟨hc, hf⟩ := bcell hb))
    go_ret
    exact ⟨by rw [HR.out]; first | rfl | (simp; omega), ((Below.refl _ _).alloc (Nat.le_refl _) _).trans (hb.mono (by simp))⟩
  | true =>
    have hy := lHas_yes hk
    have hy2 := lOk_bd hy.1
    have HR := Lib.hid (show lOff P N S A = A - P * 16 by simp [lOff, hk]; omega)
    have hy1 := hy.2
    clear hy
    go_enter Try.func50, Try.ntmps50
    go_wp2_with (first | (go_at_call 49; refine (largeHas_s _ _ _ _ _).mono ?_; rintro e w1 ⟨rfl, hb⟩; obtain ⟨hc, hf⟩ := bcell hb))
    go_ret
    exact ⟨by rw [HR.out]; first | rfl | (simp; omega), ((Below.refl _ _).alloc (Nat.le_refl _) _).trans (hb.mono (by simp))⟩
end Go.Proofs.Ytjimpmdelnnflaa
