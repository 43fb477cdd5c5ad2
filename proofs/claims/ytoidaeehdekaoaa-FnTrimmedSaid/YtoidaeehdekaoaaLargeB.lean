/- LargeHas, LargeOffset, LargeNew, LargeTrim, of the program and of the reference; the small functions of the laws. -/
import Derived.Test.YtoidaeehdekaoaaLargeA
namespace Go.Proofs.Ytoidaeehdekaoaa
open Go.ChangeShapes Go.WideShapes Go.ChangeAt Go.RowKit
set_option linter.unusedVariables false

set_option maxHeartbeats 1000000 in
theorem toLarge_any (P N S : Int) (w : World) :
    Calls Try.prog 15 #[.agg #[.int .i64 P, .int .i64 N, .int .i64 S]] w fun e w' => e = .returned (.agg #[.int .i64 P, .int .i64 N, .int .i64 S]) ∧ Below w.heap.size w w' := by
  go_enter Try.func15, Try.ntmps15
  go_wp2
  refine bodyPost_ret (v := .agg #[.int .i64 P, .int .i64 N, .int .i64 S]) (by simp [results, Try.results15, go_sem]) rfl ⟨rfl, ?_⟩
  (repeat' (first | (with_reducible exact Below.refl _ _) | (with_reducible refine bel_alloc ?_ ?_ _) | (with_reducible refine Below.setCell ?_ ?_ _) | (with_reducible refine below_drewN ?_ _) | (with_reducible refine Below.drew ?_) | (with_reducible exact Nat.le_refl _) | (with_reducible assumption) | omega | (simp only [World.size_alloc, World.size_setCell, World.size_drew]; omega) | (simp; omega) | (simp; done)))
def lHas (P N S A : Int) : Bool := lOk P N S && decide (16 * P ≤ A) && decide (A < 16 * P + S)
theorem lHas_yes {P N S A : Int} (h : lHas P N S A = true) : lOk P N S = true ∧ 16 * P ≤ A ∧ A < 16 * P + S := by
  simpa [lHas, and_assoc] using h
set_option maxHeartbeats 4000000 in
theorem largeHas_i (P N S A : Int) (w : World) :
    Calls Try.prog 18 #[.agg #[.int .i64 P, .int .i64 N, .int .i64 S], .int .i64 A] w fun e w' => e = .returned (.bool (lHas P N S A)) ∧ Below w.heap.size w w' := by
  cases hk : lOk P N S with
  | false =>
    have HR := Lib.hid (show lHas P N S A = false by simp [lHas, hk])
    go_enter Try.func18, Try.ntmps18
    go_wp2_with (first | (go_at_call 16; refine (largeOk_i _ _ _ _).mono ?_; rintro e w1 ⟨rfl, hb⟩; obtain ⟨hc, hf⟩ := bcell hb))
    go_ret
    exact ⟨by rw [HR.out]; first | rfl | (simp; omega), ((Below.refl _ _).alloc (Nat.le_refl _) _).trans (hb.mono (by simp))⟩
  | true =>
    have hy := lOk_bd hk
    by_cases h1 : 16 * P ≤ A ∧ A < 16 * P + S
    all_goals
      first
      | have HB : btw A (P * 16) (P * 16 + S - 1) = true := btw_t (by omega) (by omega)
      | have HB : btw A (P * 16) (P * 16 + S - 1) = false := btw_f (by omega)
      first
      | have HR := Lib.hid (show lHas P N S A = true by simp [lHas, hk]; omega)
      | have HR := Lib.hid (show lHas P N S A = false by simp [lHas, hk]; omega)
      clear h1
      go_enter Try.func18, Try.ntmps18
      go_wp2_with (first | (go_at_call 16; refine (largeOk_i _ _ _ _).mono ?_; rintro e w1 ⟨rfl, hb⟩; obtain ⟨hc, hf⟩ := bcell hb) | (go_at_call 31; refine (between_q _ _ _ _).mono ?_; rintro e w2 ⟨rfl, rfl⟩))
      go_ret
      exact ⟨by rw [HR.out]; first | rfl | (simp; omega), ((Below.refl _ _).alloc (Nat.le_refl _) _).trans (hb.mono (by simp))⟩
set_option maxHeartbeats 4000000 in
theorem largeHas_s (P N S A : Int) (w : World) :
    Calls Try.prog 17 #[.agg #[.int .i64 P, .int .i64 N, .int .i64 S], .int .i64 A] w fun e w' => e = .returned (.bool (lHas P N S A)) ∧ Below w.heap.size w w' := by
  cases hk : lOk P N S with
  | false =>
    have HR := Lib.hid (show lHas P N S A = false by simp [lHas, hk])
    go_enter Try.func17, Try.ntmps17
    go_wp2_with (first | (go_at_call 14; refine (largeOk_s _ _ _ _).mono ?_; rintro e w1 ⟨rfl, hb⟩; obtain ⟨hc, hf⟩ := bcell hb))
    go_ret
    exact ⟨by rw [HR.out]; first | rfl | (simp; omega), ((Below.refl _ _).alloc (Nat.le_refl _) _).trans (hb.mono (by simp))⟩
  | true =>
    have hy := lOk_bd hk
    rcases (by omega : ¬ P * 16 ≤ A ∨ (P * 16 ≤ A ∧ ¬ A < P * 16 + S) ∨ (P * 16 ≤ A ∧ A < P * 16 + S)) with h1 | ⟨h1, h2⟩ | ⟨h1, h2⟩
    all_goals
      first
      | have HR := Lib.hid (show lHas P N S A = true by simp [lHas, hk]; omega)
      | have HR := Lib.hid (show lHas P N S A = false by simp [lHas, hk]; omega)
      go_enter Try.func17, Try.ntmps17
      go_wp2_with (first | (go_at_call 14; refine (largeOk_s _ _ _ _).mono ?_; rintro e w1 ⟨rfl, hb⟩; obtain ⟨hc, hf⟩ := bcell hb))
      go_ret
      exact ⟨by rw [HR.out]; first | rfl | (simp; omega), ((Below.refl _ _).alloc (Nat.le_refl _) _).trans (hb.mono (by simp))⟩

def lOff (P N S A : Int) : Int := if lHas P N S A = true then A - 16 * P else -1
set_option maxHeartbeats 4000000 in
theorem largeOffset_i (P N S A : Int) (w : World) :
    Calls Try.prog 22 #[.agg #[.int .i64 P, .int .i64 N, .int .i64 S], .int .i64 A] w fun e w' => e = .returned (.int .i64 (lOff P N S A)) ∧ Below w.heap.size w w' := by
  cases hk : lHas P N S A with
  | false =>
    have HR := Lib.hid (show lOff P N S A = -1 by simp [lOff, hk])
    go_enter Try.func22, Try.ntmps22
    go_wp2_with (first | (go_at_call 18; refine (largeHas_i _ _ _ _ _).mono ?_; rintro e w1 ⟨rfl, hb⟩; obtain ⟨hc, hf⟩ := bcell hb))
    go_ret
    exact ⟨by rw [HR.out]; first | rfl | (simp; omega), ((Below.refl _ _).alloc (Nat.le_refl _) _).trans (hb.mono (by simp))⟩
  | true =>
    have hy := lHas_yes hk
    have hy2 := lOk_bd hy.1
    have HR := Lib.hid (show lOff P N S A = A - P * 16 by simp [lOff, hk]; omega)
    have hy1 := hy.2
    clear hy
    go_enter Try.func22, Try.ntmps22
    go_wp2_with (first | (go_at_call 18; refine (largeHas_i _ _ _ _ _).mono ?_; rintro e w1 ⟨rfl, hb⟩; obtain ⟨hc, hf⟩ := bcell hb))
    go_ret
    exact ⟨by rw [HR.out]; first | rfl | (simp; omega), ((Below.refl _ _).alloc (Nat.le_refl _) _).trans (hb.mono (by simp))⟩
set_option maxHeartbeats 4000000 in
theorem largeOffset_s (P N S A : Int) (w : World) :
    Calls Try.prog 21 #[.agg #[.int .i64 P, .int .i64 N, .int .i64 S], .int .i64 A] w fun e w' => e = .returned (.int .i64 (lOff P N S A)) ∧ Below w.heap.size w w' := by
  cases hk : lHas P N S A with
  | false =>
    have HR := Lib.hid (show lOff P N S A = -1 by simp [lOff, hk])
    go_enter Try.func21, Try.ntmps21
    go_wp2_with (first | (go_at_call 17; refine (largeHas_s _ _ _ _ _).mono ?_; rintro e w1 ⟨rfl, hb⟩; obtain ⟨hc, hf⟩ := bcell hb))
    go_ret
    exact ⟨by rw [HR.out]; first | rfl | (simp; omega), ((Below.refl _ _).alloc (Nat.le_refl _) _).trans (hb.mono (by simp))⟩
  | true =>
    have hy := lHas_yes hk
    have hy2 := lOk_bd hy.1
    have HR := Lib.hid (show lOff P N S A = A - P * 16 by simp [lOff, hk]; omega)
    have hy1 := hy.2
    clear hy
    go_enter Try.func21, Try.ntmps21
    go_wp2_with (first | (go_at_call 17; refine (largeHas_s _ _ _ _ _).mono ?_; rintro e w1 ⟨rfl, hb⟩; obtain ⟨hc, hf⟩ := bcell hb))
    go_ret
    exact ⟨by rw [HR.out]; first | rfl | (simp; omega), ((Below.refl _ _).alloc (Nat.le_refl _) _).trans (hb.mono (by simp))⟩
end Go.Proofs.Ytoidaeehdekaoaa
