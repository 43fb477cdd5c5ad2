/- SlotsOf, BitmapOk, HasSlot, SpanOk, of the program and of the reference. -/
import Derived.Test.YtjimpmdelnnflaaSpanP
namespace Go.Proofs.Ytjimpmdelnnflaa
open Go.ChangeShapes Go.WideShapes Go.ChangeAt Go.RowKit
set_option linter.unusedVariables false
set_option linter.unusedSimpArgs false

theorem slotsOf_i (c : Int) (w : World) : Calls Try.prog 39 #[.int .i64 c] w fun e w' => e = .returned (.int .i64 (sl c)) ∧ w' = w := by
  rcases cls_cases c with rfl | rfl | rfl | rfl | h
  iterate 4
    ·
      have hb : btw 0 0 3 = true := rfl
      have h1 : btw 1 0 3 = true := rfl
      have h2 : btw 2 0 3 = true := rfl
      have h3 : btw 3 0 3 = true := rfl
      have e0 : cs 0 = 1 := rfl
      have e1 : cs 1 = 2 := rfl
      have e2 : cs 2 = 4 := rfl
      have e3 : cs 3 = 8 := rfl
      go_enter Try.func39, Try.ntmps39
      go_wp2_with (first | (go_at_call 64; refine (classOk_i _ _).mono ?_; rintro e w2 ⟨rfl, rfl⟩) | (go_at_call 65; refine (classSize_i _ _).mono ?_; rintro e w2 ⟨rfl, rfl⟩))
      go_ret
      exact ⟨rfl, rfl⟩
  have HR := Lib.hid (show sl c = 0 from sl_out (of_btw_f h))
  go_enter Try.func39, Try.ntmps39
  go_wp2_with (go_at_call 64; refine (classOk_i _ _).mono ?_; rintro e w2 ⟨rfl, rfl⟩)
  go_ret
  exact ⟨by rw [HR.out]; rfl, rfl⟩
theorem slotsOf_s (c : Int) (w : World) : Calls Try.prog 79 #[.int .i64 c] w fun e w' => e = .returned (.int .i64 (sl c)) ∧ w' = w := by
  rcases cls_cases c with rfl | rfl | rfl | rfl | h
  iterate 4
    ·
      have hb : btw 0 0 3 = true := rfl
      have h1 : btw 1 0 3 = true := rfl
      have h2 : btw 2 0 3 = true := rfl
      have h3 : btw 3 0 3 = true := rfl
      go_enter Try.func79, Try.ntmps79
      go_wp2_with (go_at_call 77; refine (l01In_q _ _ _ _).mono ?_; rintro e w2 ⟨rfl, rfl⟩)
      go_ret
      exact ⟨rfl, rfl⟩
  have HR := Lib.hid (show sl c = 0 from sl_out (of_btw_f h))
  go_enter Try.func79, Try.ntmps79
  go_wp2_with (go_at_call 77; refine (l01In_q _ _ _ _).mono ?_; rintro e w2 ⟨rfl, rfl⟩)
  go_ret
  exact ⟨by rw [HR.out]; rfl, rfl⟩
theorem bitmapOk_i (c b : Int) (w : World) : Calls Try.prog 73 #[.int .i64 (sl c), .int .i64 b] w fun e w' => e = .returned (.bool (bmOk c b)) ∧ w' = w := by
  rcases cls_cases c with rfl | rfl | rfl | rfl | h
  iterate 4
    ·
      have e0 : sl 0 = 16 := rfl
      have e1 : sl 1 = 8 := rfl
      have e2 : sl 2 = 4 := rfl
      have e3 : sl 3 = 2 := rfl
      have h1 : btw 16 1 16 = true := rfl
      have h2 : btw 8 1 16 = true := rfl
      have h3 : btw 4 1 16 = true := rfl
      have h4 : btw 2 1 16 = true := rfl
      simp only [e0, e1, e2, e3]
      clear e0 e1 e2 e3
      go_enter Try.func73, Try.ntmps73
      go_wp2_with (first | (go_at_call 67; refine (between_q _ _ _ _).mono ?_; rintro e w2 ⟨rfl, rfl⟩))
      go_ret
      exact ⟨rfl, rfl⟩
  have HR := Lib.hid (show bmOk c b = false by simp [bmOk, h])
  have e0 : sl c = 0 := sl_out (of_btw_f h)
  rw [e0]
  clear e0 h
  have h1 : btw 0 1 16 = false := rfl
  go_enter Try.func73, Try.ntmps73
  go_wp2_with (go_at_call 67; refine (between_q _ _ _ _).mono ?_; rintro e w2 ⟨rfl, rfl⟩)
  go_ret
  exact ⟨by rw [HR.out]; rfl, rfl⟩
theorem bitmapOk_s (c b : Int) (w : World) : Calls Try.prog 78 #[.int .i64 (sl c), .int .i64 b] w fun e w' => e = .returned (.bool (bmOk c b)) ∧ w' = w := by
  rcases cls_cases c with rfl | rfl | rfl | rfl | h
  iterate 4
    ·
      have e0 : sl 0 = 16 := rfl
      have e1 : sl 1 = 8 := rfl
      have e2 : sl 2 = 4 := rfl
      have e3 : sl 3 = 2 := rfl
      have h1 : btw 16 1 16 = true := rfl
      have h2 : btw 8 1 16 = true := rfl
      have h3 : btw 4 1 16 = true := rfl
      have h4 : btw 2 1 16 = true := rfl
      simp only [e0, e1, e2, e3]
      clear e0 e1 e2 e3
      go_enter Try.func78, Try.ntmps78
      go_wp2_with (first | (go_at_call 77; refine (l01In_q _ _ _ _).mono ?_; rintro e w2 ⟨rfl, rfl⟩))
      go_ret
      exact ⟨rfl, rfl⟩
  have HR := Lib.hid (show bmOk c b = false by simp [bmOk, h])
  have e0 : sl c = 0 := sl_out (of_btw_f h)
  rw [e0]
  clear e0 h
  have h1 : btw 0 1 16 = false := rfl
  go_enter Try.func78, Try.ntmps78
  go_wp2_with (go_at_call 77; refine (l01In_q _ _ _ _).mono ?_; rintro e w2 ⟨rfl, rfl⟩)
  go_ret
  exact ⟨by rw [HR.out]; rfl, rfl⟩
theorem slotOk_i (b i : Int) (w : World) : Calls Try.prog 66 #[.int .i64 b, .int .i64 i] w fun e w' => e = .returned (.bool (slB b i)) ∧ w' = w := by
  by_cases hb : 0 ≤ b
  all_goals
    have HR := Lib.hid (show slB b i = (decide (0 ≤ b) && btw i 0 15) from rfl)
    go_enter Try.func66, Try.ntmps66
    go_wp2_with (go_at_call 67; refine (between_q _ _ _ _).mono ?_; rintro e w2 ⟨rfl, rfl⟩)
    go_ret
    exact ⟨by rw [HR.out]; first | (simp [hb]; done) | (rw [decide_eq_false (show ¬ 0 ≤ b by omega)]; rfl), rfl⟩
theorem hasSlot_i (b i : Int) (w : World) : Calls Try.prog 40 #[.int .i64 b, .int .i64 i] w fun e w' => e = .returned (.bool (hasS b i)) ∧ w' = w := by
  have HS := Lib.hid (fun W => slotOk_i b i W)
  have HR := Lib.hid (show hasS b i = (slB b i && (bits .and .i64 (b / 2 ^ i.toNat) 1 == 1)) from rfl)
  cases h : slB b i with
  | true =>
    have hi2 := slB_yes h
    rw [h] at HS HR
    clear h
    go_enter Try.func40, Try.ntmps40
    go_wp2_with (go_at_call 66; refine (HS.out _).mono ?_; rintro e w2 ⟨rfl, rfl⟩)
    go_ret
    exact ⟨by rw [HR.out]; simp; try rfl, rfl⟩
  | false =>
    rw [h] at HS HR
    clear h
    go_enter Try.func40, Try.ntmps40
    go_wp2_with (go_at_call 66; refine (HS.out _).mono ?_; rintro e w2 ⟨rfl, rfl⟩)
    go_ret
    exact ⟨by rw [HR.out]; simp; try rfl, rfl⟩
theorem slotOk_s (b i : Int) (w : World) : Calls Try.prog 76 #[.int .i64 b, .int .i64 i] w fun e w' => e = .returned (.bool (slB b i)) ∧ w' = w := by
  by_cases hb : 0 ≤ b
  all_goals
    have HR := Lib.hid (show slB b i = (decide (0 ≤ b) && btw i 0 15) from rfl)
    go_enter Try.func76, Try.ntmps76
    go_wp2_with (go_at_call 77; refine (l01In_q _ _ _ _).mono ?_; rintro e w2 ⟨rfl, rfl⟩)
    go_ret
    exact ⟨by rw [HR.out]; first | (simp [hb]; done) | (rw [decide_eq_false (show ¬ 0 ≤ b by omega)]; rfl), rfl⟩
theorem hasSlot_s (b i : Int) (w : World) : Calls Try.prog 48 #[.int .i64 b, .int .i64 i] w fun e w' => e = .returned (.bool (hasS b i)) ∧ w' = w := by
  have HS := Lib.hid (fun W => slotOk_s b i W)
  have HR := Lib.hid (show hasS b i = (slB b i && (bits .and .i64 (b / 2 ^ i.toNat) 1 == 1)) from rfl)
  cases h : slB b i with
  | true =>
    have hi2 := slB_yes h
    rw [h] at HS HR
    clear h
    go_enter Try.func48, Try.ntmps48
    go_wp2_with (go_at_call 76; refine (HS.out _).mono ?_; rintro e w2 ⟨rfl, rfl⟩)
    go_ret
    exact ⟨by rw [HR.out]; simp; try rfl, rfl⟩
  | false =>
    rw [h] at HS HR
    clear h
    go_enter Try.func48, Try.ntmps48
    go_wp2_with (go_at_call 76; refine (HS.out _).mono ?_; rintro e w2 ⟨rfl, rfl⟩)
    go_ret
    exact ⟨by rw [HR.out]; simp; try rfl, rfl⟩
end Go.Proofs.Ytjimpmdelnnflaa
