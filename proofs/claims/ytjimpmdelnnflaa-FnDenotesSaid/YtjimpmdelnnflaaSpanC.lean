/- SlotAt of the reference. -/
import Derived.Test.YtjimpmdelnnflaaSpanB
namespace Go.Proofs.Ytjimpmdelnnflaa
open Go.ChangeShapes Go.WideShapes Go.ChangeAt Go.RowKit
set_option linter.unusedVariables false
set_option linter.unusedSimpArgs false

set_option maxHeartbeats 1000000 in
theorem slotAt_s (P C B a : Int) (w : World) (ha : -9223372036854775808 ≤ a ∧ a ≤ 9223372036854775807) :
    Calls Try.prog 47 #[.agg #[.int .i64 P, .int .i64 C, .int .i64 B], .int .i64 a] w (SlotRes (sAt P C B a) (sOf P C B a) w) := by
  have HO := Lib.hid (fun W => spanOk_s P C B W)
  cases h1 : spOk P C B with
  | false =>
    have HR := Lib.hid (sAt_no (inSp_no (a := a) h1))
    rw [h1] at HO
    clear h1
    go_enter Try.func47, Try.ntmps47
    go_wp2_with fail
    refine (HO.out _).mono ?_
    rintro e w1 ⟨rfl, hb1⟩
    go_wp2
    go_ret2
    exact ⟨by rw [HR.out.1, HR.out.2]; rfl, by (repeat' (first | (with_reducible exact Below.refl _ _) | (with_reducible refine bel_alloc ?_ ?_ _) | (with_reducible refine Below.setCell ?_ ?_ _) | (with_reducible refine below_drewN ?_ _) | (with_reducible refine Below.drew ?_) | (with_reducible refine bel_step hb1 ?_ ?_) | (with_reducible exact Nat.le_refl _) | (with_reducible assumption) | omega | (simp only [World.size_alloc, World.size_setCell, World.size_drew]; omega) | (simp; omega) | (simp; done)))⟩
  | true =>
    obtain ⟨hP, hC, -⟩ := spOk_yes h1
    have hm := cs_pos hC
    have HCS := Lib.hid (fun W => classSize_s C W)
    have HI := Lib.hid (show inSp P C B a = btw a (P * 16) (P * 16 + 15) by rw [inSp, h1, Bool.true_and])
    have HY := Lib.hid (@sAt_yes P C B a)
    rw [h1] at HO
    clear h1
    generalize cs C = m at *
    rcases (by omega : a < 0 ∨ (0 ≤ a ∧ a / 16 ≠ P) ∨ (0 ≤ a ∧ a / 16 = P)) with h2 | ⟨h2, h3⟩ | ⟨h2, h3⟩
    · have HR := Lib.hid (sAt_no (HI.out.trans (btw_f (by omega))))
      go_enter Try.func47, Try.ntmps47
      go_wp2_with fail
      refine (HO.out _).mono ?_
      rintro e w1 ⟨rfl, hb1⟩
      have q0 : w1.cell? ⟨w.heap.size, 0, none⟩ = some (.int .i64 P) := keep hb1 (by simp [go_sem])
      have q1 : w1.cell? ⟨w.heap.size, 1, none⟩ = some (.int .i64 C) := keep hb1 (by simp [go_sem])
      have q2 : w1.cell? ⟨w.heap.size, 2, none⟩ = some (.int .i64 B) := keep hb1 (by simp [go_sem])
      go_wp2
      go_ret2
      exact ⟨by rw [HR.out.1, HR.out.2]; rfl, by (repeat' (first | (with_reducible exact Below.refl _ _) | (with_reducible refine bel_alloc ?_ ?_ _) | (with_reducible refine Below.setCell ?_ ?_ _) | (with_reducible refine below_drewN ?_ _) | (with_reducible refine Below.drew ?_) | (with_reducible refine bel_step hb1 ?_ ?_) | (with_reducible exact Nat.le_refl _) | (with_reducible assumption) | omega | (simp only [World.size_alloc, World.size_setCell, World.size_drew]; omega) | (simp; omega) | (simp; done)))⟩
    · have HR := Lib.hid (sAt_no (HI.out.trans (btw_f (by omega))))
      have h3b : (a / 16 != P) = true := by simpa using h3
      go_enter Try.func47, Try.ntmps47
      go_wp2_with fail
      refine (HO.out _).mono ?_
      rintro e w1 ⟨rfl, hb1⟩
      have q0 : w1.cell? ⟨w.heap.size, 0, none⟩ = some (.int .i64 P) := keep hb1 (by simp [go_sem])
      have q1 : w1.cell? ⟨w.heap.size, 1, none⟩ = some (.int .i64 C) := keep hb1 (by simp [go_sem])
      have q2 : w1.cell? ⟨w.heap.size, 2, none⟩ = some (.int .i64 B) := keep hb1 (by simp [go_sem])
      go_wp2
      go_ret2
      exact ⟨by rw [HR.out.1, HR.out.2]; rfl, by (repeat' (first | (with_reducible exact Below.refl _ _) | (with_reducible refine bel_alloc ?_ ?_ _) | (with_reducible refine Below.setCell ?_ ?_ _) | (with_reducible refine below_drewN ?_ _) | (with_reducible refine Below.drew ?_) | (with_reducible refine bel_step hb1 ?_ ?_) | (with_reducible exact Nat.le_refl _) | (with_reducible assumption) | omega | (simp only [World.size_alloc, World.size_setCell, World.size_drew]; omega) | (simp; omega) | (simp; done)))⟩
    · have HR := Lib.hid (HY.out (HI.out.trans (btw_t (by omega) (by omega))))
      have h3b : (a / 16 != P) = false := by simp [h3]
      have HX := Lib.hid (show a - P * 16 = a % 16 by omega)
      have hne : (m == 0) = false := by simp; omega
      clear h3
      go_enter Try.func47, Try.ntmps47
      go_wp2_with fail
      refine (HO.out _).mono ?_
      rintro e w1 ⟨rfl, hb1⟩
      have q0 : w1.cell? ⟨w.heap.size, 0, none⟩ = some (.int .i64 P) := keep hb1 (by simp [go_sem])
      have q1 : w1.cell? ⟨w.heap.size, 1, none⟩ = some (.int .i64 C) := keep hb1 (by simp [go_sem])
      have q2 : w1.cell? ⟨w.heap.size, 2, none⟩ = some (.int .i64 B) := keep hb1 (by simp [go_sem])
      go_wp2
      go_quiet ((go_at_call 75; exact Calls.quiet_of_same (HCS.out _)))
      go_wp2
      go_ret2
      exact ⟨by rw [HR.out.1, HR.out.2, HX.out]; rfl, by (repeat' (first | (with_reducible exact Below.refl _ _) | (with_reducible refine bel_alloc ?_ ?_ _) | (with_reducible refine Below.setCell ?_ ?_ _) | (with_reducible refine below_drewN ?_ _) | (with_reducible refine Below.drew ?_) | (with_reducible refine bel_step hb1 ?_ ?_) | (with_reducible exact Nat.le_refl _) | (with_reducible assumption) | omega | (simp only [World.size_alloc, World.size_setCell, World.size_drew]; omega) | (simp; omega) | (simp; done)))⟩
end Go.Proofs.Ytjimpmdelnnflaa
