/- ClassOf and GuardCells, of the program and of the reference. -/
import Derived.Test.YtljholnnhogdkaaCls
import Derived.Test.YtljholnnhogdkaaIntN
namespace Go.Proofs.Ytljholnnhogdkaa
open Go.ChangeShapes Go.WideShapes Go.ChangeAt Go.RowKit
set_option linter.unusedVariables false

def kOf (s : Int) : Nat := if s ≤ 1 then 0 else if s ≤ 2 then 1 else if s ≤ 4 then 2 else 3
def kC (s : Int) : Int := if btw s 1 8 then (kOf s : Nat) else -1
theorem kOf_cs {s : Int} (h : 1 ≤ s ∧ s ≤ 8) : s ≤ cs (kOf s : Nat) ∧ kOf s ≤ 3 ∧ ∀ k : Nat, k < kOf s → cs (k : Nat) < s := by
  unfold kOf
  refine ⟨?_, ?_, fun k hk => ?_⟩
  · split; · simp [cs]; omega
    split; · simp [cs]; omega
    split; · simp [cs]; omega
    simp [cs]; omega
  · repeat' split
    all_goals omega
  · split at hk; · omega
    split at hk; · obtain rfl : k = 0 := by omega
                   simp [cs]; omega
    split at hk
    · rcases (by omega : k = 0 ∨ k = 1) with rfl | rfl <;> simp [cs] <;> omega
    · rcases (by omega : k = 0 ∨ k = 1 ∨ k = 2) with rfl | rfl | rfl <;> simp [cs] <;> omega
theorem classOf_i (s : Int) (w : World) : Calls Try.prog 31 #[.int .i64 s] w fun e w' => e = .returned (.int .i64 (kC s)) ∧ w' = w := by
  cases hb : btw s 1 8 with
  | false =>
    have HR := Lib.hid (show kC s = -1 by simp [kC, hb])
    go_enter Try.func31, Try.ntmps31
    go_wp2_with (go_at_call 32; refine (between_q _ _ _ _).mono ?_; rintro e w ⟨rfl, rfl⟩)
    go_ret
    exact ⟨by rw [HR.out]; rfl, rfl⟩
  | true =>
    have hs := of_btw hb
    have HR := Lib.hid (show kC s = (kOf s : Nat) by simp [kC, hb])
    obtain ⟨h1, h2, h3⟩ := kOf_cs hs
    have HL := Lib.hid h3
    generalize kOf s = n at *
    have HG := Lib.hid h1
    clear h1 h3
    go_enter Try.func31, Try.ntmps31
    go_wp2_with (go_at_call 32; refine (between_q _ _ _ _).mono ?_; rintro e w ⟨rfl, rfl⟩)
    go_loop [3] (fun v => ∃ k : Nat, k ≤ n ∧ v = .int .i64 k) (fun v => n - (intOf v).toNat)
    case atStart => exact ⟨0, Nat.zero_le _, rfl⟩
    case round =>
      obtain ⟨k, hk, rfl⟩ := hrel
      have HCS := Lib.hid (fun W => classSize_i (k : Int) W)
      by_cases hlt : k < n
      · have hc := HL.out k hlt
        generalize cs (k : Int) = m at *
        go_wp2_with (go_at_call 33; refine (HCS.out _).mono ?_; rintro e w ⟨rfl, rfl⟩)
        go_round
        case rel => exact ⟨k + 1, by omega, by go_num⟩
        case measure => simp [intOf]; omega
      · obtain rfl : k = n := by omega
        have hc := HG.out
        generalize cs (k : Int) = m at *
        go_wp2_with (go_at_call 33; refine (HCS.out _).mono ?_; rintro e w ⟨rfl, rfl⟩)
        go_ret
        exact ⟨by rw [HR.out]; rfl, rfl⟩
theorem classOf_s (s : Int) (w : World) : Calls Try.prog 15 #[.int .i64 s] w fun e w' => e = .returned (.int .i64 (kC s)) ∧ w' = w := by
  cases hb : btw s 1 8 with
  | false =>
    have HR := Lib.hid (show kC s = -1 by simp [kC, hb])
    go_enter Try.func15, Try.ntmps15
    go_wp2_with (go_at_call 30; refine (l01In_q _ _ _ _).mono ?_; rintro e w ⟨rfl, rfl⟩)
    go_ret
    exact ⟨by rw [HR.out]; rfl, rfl⟩
  | true =>
    have hs := of_btw hb
    have HR := Lib.hid (show kC s = (kOf s : Nat) by simp [kC, hb])
    obtain ⟨h1, h2, h3⟩ := kOf_cs hs
    have HL := Lib.hid h3
    generalize kOf s = n at *
    have HG := Lib.hid h1
    clear h1 h3
    go_enter Try.func15, Try.ntmps15
    go_wp2_with (go_at_call 30; refine (l01In_q _ _ _ _).mono ?_; rintro e w ⟨rfl, rfl⟩)
    go_loop [3] (fun v => ∃ k : Nat, k ≤ n ∧ v = .int .i64 k) (fun v => n - (intOf v).toNat)
    case atStart => exact ⟨0, Nat.zero_le _, rfl⟩
    case round =>
      obtain ⟨k, hk, rfl⟩ := hrel
      by_cases hlt : k < n
      · have hc := HL.out k hlt
        rcases (by omega : k = 0 ∨ k = 1 ∨ k = 2) with rfl | rfl | rfl
        all_goals
          simp [cs] at hc
          go_wp2
          go_round
          case rel => exact ⟨_, hlt, by go_num⟩
          case measure => simp [intOf]; omega
      · obtain rfl : k = n := by omega
        have hc := HG.out
        rcases (by omega : k = 0 ∨ k = 1 ∨ k = 2 ∨ k = 3) with rfl | rfl | rfl | rfl
        all_goals
          simp [cs] at hc
          go_wp2
          go_ret
          exact ⟨by rw [HR.out]; rfl, rfl⟩
end Go.Proofs.Ytljholnnhogdkaa
