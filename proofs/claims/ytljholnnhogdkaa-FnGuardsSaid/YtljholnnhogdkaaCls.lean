/- ClassSize, of the program and of the reference. -/
import Derived.Test.YtljholnnhogdkaaNum
namespace Go.Proofs.Ytljholnnhogdkaa
open Go.ChangeShapes Go.WideShapes Go.ChangeAt Go.RowKit
set_option linter.unusedVariables false

def cs (c : Int) : Int := if c = 0 then 1 else if c = 1 then 2 else if c = 2 then 4 else if c = 3 then 8 else 0
theorem cs_bd (c : Int) : 0 ≤ cs c ∧ cs c ≤ 8 := by unfold cs; repeat' split <;> omega
theorem cs_out {c : Int} (h : ¬ (0 ≤ c ∧ c ≤ 3)) : cs c = 0 := by
  unfold cs
  rw [if_neg (by omega), if_neg (by omega), if_neg (by omega), if_neg (by omega)]
theorem cls_cases (c : Int) : c = 0 ∨ c = 1 ∨ c = 2 ∨ c = 3 ∨ btw c 0 3 = false := by
  by_cases h : 0 ≤ c ∧ c ≤ 3
  · omega
  · exact .inr (.inr (.inr (.inr (btw_f h))))
theorem classOk_i (c : Int) (w : World) : Calls Try.prog 54 #[.int .i64 c] w fun e w' => e = .returned (.bool (btw c 0 3)) ∧ w' = w := by
  go_enter Try.func54, Try.ntmps54
  go_wp2_with (go_at_call 32; refine (between_q _ _ _ _).mono ?_; rintro e w2 ⟨rfl, rfl⟩)
  go_ret
  exact ⟨rfl, rfl⟩
theorem classSize_i (c : Int) (w : World) : Calls Try.prog 33 #[.int .i64 c] w fun e w' => e = .returned (.int .i64 (cs c)) ∧ w' = w := by
  rcases cls_cases c with rfl | rfl | rfl | rfl | h
  iterate 4
    ·
      have hb : btw 0 0 3 = true := rfl
      have h1 : btw 1 0 3 = true := rfl
      have h2 : btw 2 0 3 = true := rfl
      have h3 : btw 3 0 3 = true := rfl
      go_enter Try.func33, Try.ntmps33
      go_wp2_with (go_at_call 54; refine (classOk_i _ _).mono ?_; rintro e w2 ⟨rfl, rfl⟩)
      go_ret
      exact ⟨rfl, rfl⟩
  have HR := Lib.hid (show cs c = 0 from cs_out (of_btw_f h))
  go_enter Try.func33, Try.ntmps33
  go_wp2_with (go_at_call 54; refine (classOk_i _ _).mono ?_; rintro e w2 ⟨rfl, rfl⟩)
  go_ret
  exact ⟨by rw [HR.out]; rfl, rfl⟩
theorem classSize_s (c : Int) (w : World) : Calls Try.prog 16 #[.int .i64 c] w fun e w' => e = .returned (.int .i64 (cs c)) ∧ w' = w := by
  rcases cls_cases c with rfl | rfl | rfl | rfl | h
  iterate 4
    ·
      have hb : btw 0 0 3 = true := rfl
      have h1 : btw 1 0 3 = true := rfl
      have h2 : btw 2 0 3 = true := rfl
      have h3 : btw 3 0 3 = true := rfl
      go_enter Try.func16, Try.ntmps16
      go_wp2_with (go_at_call 30; refine (l01In_q _ _ _ _).mono ?_; rintro e w2 ⟨rfl, rfl⟩)
      go_ret
      exact ⟨rfl, rfl⟩
  have HR := Lib.hid (show cs c = 0 from cs_out (of_btw_f h))
  go_enter Try.func16, Try.ntmps16
  go_wp2_with (go_at_call 30; refine (l01In_q _ _ _ _).mono ?_; rintro e w2 ⟨rfl, rfl⟩)
  go_ret
  exact ⟨by rw [HR.out]; rfl, rfl⟩
end Go.Proofs.Ytljholnnhogdkaa
