/- SpanOk, SlotAt, of the program and of the reference. -/
import Derived.Test.YtjimpmdelnnflaaSpanA
namespace Go.Proofs.Ytjimpmdelnnflaa
open Go.ChangeShapes Go.WideShapes Go.ChangeAt Go.RowKit
set_option linter.unusedVariables false
set_option linter.unusedSimpArgs false

theorem spOk_no1 {P C B : Int} (h : btw P 0 31 = false) : spOk P C B = false := by simp [spOk, h]
theorem spOk_no2 {P C B : Int} (h : btw C 0 3 = false) : spOk P C B = false := by simp [spOk, bmOk, h]
theorem spOk_eq {P C B : Int} (h : btw P 0 31 = true) : spOk P C B = bmOk C B := by simp [spOk, h]
set_option maxHeartbeats 1000000 in
theorem spanOk_i (P C B : Int) (w : World) :
    Calls Try.prog 45 #[.agg #[.int .i64 P, .int .i64 C, .int .i64 B]] w fun e w' => e = .returned (.bool (spOk P C B)) ∧ Below w.heap.size w w' := by
  have HP := Lib.hid (fun W => between_q P 0 31 W)
  have HC := Lib.hid (fun W => classOk_i C W)
  have HB := Lib.hid (fun W => bitmapOk_i C B W)
  cases h1 : btw P 0 31 with
  | false =>
    have HR := Lib.hid (spOk_no1 (C := C) (B := B) h1)
    rw [h1] at HP
    clear h1
    go_enter Try.func45, Try.ntmps45
    go_wp2
    go_quiet ((first | (go_at_call 67; exact Calls.quiet_of_same (HP.out _))))
    go_wp2
    go_ret
    exact ⟨by rw [HR.out]; rfl, by (repeat' (first | (with_reducible exact Below.refl _ _) | (with_reducible refine bel_alloc ?_ ?_ _) | (with_reducible refine Below.setCell ?_ ?_ _) | (with_reducible refine below_drewN ?_ _) | (with_reducible refine Below.drew ?_) | (with_reducible exact Nat.le_refl _) | (with_reducible assumption) | omega | (simp only [World.size_alloc, World.size_setCell, World.size_drew]; omega) | (simp; omega) | (simp; done)))⟩
  | true =>
    have HR := Lib.hid (spOk_eq (C := C) (B := B) h1)
    rw [h1] at HP
    clear h1
    cases h2 : btw C 0 3 with
    | false =>
      have HR2 := Lib.hid (show bmOk C B = false by simp [bmOk, h2])
      rw [h2] at HC
      clear h2
      go_enter Try.func45, Try.ntmps45
      go_wp2
      go_quiet ((first | (go_at_call 67; exact Calls.quiet_of_same (HP.out _)) | (go_at_call 64; exact Calls.quiet_of_same (HC.out _))))
      go_wp2
      go_ret
      exact ⟨by rw [HR.out, HR2.out]; rfl, by (repeat' (first | (with_reducible exact Below.refl _ _) | (with_reducible refine bel_alloc ?_ ?_ _) | (with_reducible refine Below.setCell ?_ ?_ _) | (with_reducible refine below_drewN ?_ _) | (with_reducible refine Below.drew ?_) | (with_reducible exact Nat.le_refl _) | (with_reducible assumption) | omega | (simp only [World.size_alloc, World.size_setCell, World.size_drew]; omega) | (simp; omega) | (simp; done)))⟩
    | true =>
      rw [h2] at HC
      clear h2
      generalize bmOk C B = v at *
      go_enter Try.func45, Try.ntmps45
      go_wp2
      go_quiet ((first | (go_at_call 67; exact Calls.quiet_of_same (HP.out _)) | (go_at_call 64; exact Calls.quiet_of_same (HC.out _)) | (go_at_call 39; exact Calls.quiet_of_same (slotsOf_i _ _)) | (go_at_call 73; exact Calls.quiet_of_same (HB.out _))))
      go_wp2
      go_ret
      exact ⟨by rw [HR.out]; rfl, by (repeat' (first | (with_reducible exact Below.refl _ _) | (with_reducible refine bel_alloc ?_ ?_ _) | (with_reducible refine Below.setCell ?_ ?_ _) | (with_reducible refine below_drewN ?_ _) | (with_reducible refine Below.drew ?_) | (with_reducible exact Nat.le_refl _) | (with_reducible assumption) | omega | (simp only [World.size_alloc, World.size_setCell, World.size_drew]; omega) | (simp; omega) | (simp; done)))⟩
set_option maxHeartbeats 1000000 in
theorem spanOk_s (P C B : Int) (w : World) :
    Calls Try.prog 55 #[.agg #[.int .i64 P, .int .i64 C, .int .i64 B]] w fun e w' => e = .returned (.bool (spOk P C B)) ∧ Below w.heap.size w w' := by
  have HP := Lib.hid (fun W => l01In_q P 0 31 W)
  have HB := Lib.hid (fun W => bitmapOk_s C B W)
  cases h1 : btw P 0 31 with
  | false =>
    have HR := Lib.hid (spOk_no1 (C := C) (B := B) h1)
    rw [h1] at HP
    clear h1
    go_enter Try.func55, Try.ntmps55
    go_wp2
    go_quiet ((first | (go_at_call 77; exact Calls.quiet_of_same (HP.out _))))
    go_wp2
    go_ret
    exact ⟨by rw [HR.out]; rfl, by (repeat' (first | (with_reducible exact Below.refl _ _) | (with_reducible refine bel_alloc ?_ ?_ _) | (with_reducible refine Below.setCell ?_ ?_ _) | (with_reducible refine below_drewN ?_ _) | (with_reducible refine Below.drew ?_) | (with_reducible exact Nat.le_refl _) | (with_reducible assumption) | omega | (simp only [World.size_alloc, World.size_setCell, World.size_drew]; omega) | (simp; omega) | (simp; done)))⟩
  | true =>
    have HR := Lib.hid (spOk_eq (C := C) (B := B) h1)
    rw [h1] at HP
    clear h1
    generalize bmOk C B = v at *
    go_enter Try.func55, Try.ntmps55
    go_wp2
    go_quiet ((first | (go_at_call 77; exact Calls.quiet_of_same (HP.out _)) | (go_at_call 79; exact Calls.quiet_of_same (slotsOf_s _ _)) | (go_at_call 78; exact Calls.quiet_of_same (HB.out _))))
    go_wp2
    go_ret
    exact ⟨by rw [HR.out]; rfl, by (repeat' (first | (with_reducible exact Below.refl _ _) | (with_reducible refine bel_alloc ?_ ?_ _) | (with_reducible refine Below.setCell ?_ ?_ _) | (with_reducible refine below_drewN ?_ _) | (with_reducible refine Below.drew ?_) | (with_reducible exact Nat.le_refl _) | (with_reducible assumption) | omega | (simp only [World.size_alloc, World.size_setCell, World.size_drew]; omega) | (simp; omega) | (simp; done)))⟩
def SlotRes (x y : Int) (w : World) (e : Ending) (w' : World) : Prop := e = .returned (.tuple #[.int .i64 x, .int .i64 y]) ∧ Below w.heap.size w w'
theorem inSp_no {P C B a : Int} (h : spOk P C B = false) : inSp P C B a = false := by simp [inSp, h]
theorem sAt_no {P C B a : Int} (h : inSp P C B a = false) : sAt P C B a = -1 ∧ sOf P C B a = -1 := by simp [sAt, sOf, h]
theorem sAt_yes {P C B a : Int} (h : inSp P C B a = true) : sAt P C B a = (a - P * 16) / cs C ∧ sOf P C B a = (a - P * 16) % cs C := by simp [sAt, sOf, h]
set_option maxHeartbeats 1000000 in
theorem slotAt_i (P C B a : Int) (w : World) :
    Calls Try.prog 70 #[.agg #[.int .i64 P, .int .i64 C, .int .i64 B], .int .i64 a] w (SlotRes (sAt P C B a) (sOf P C B a) w) := by
  have HO := Lib.hid (fun W => spanOk_i P C B W)
  cases h1 : spOk P C B with
  | false =>
    have HR := Lib.hid (sAt_no (inSp_no (a := a) h1))
    rw [h1] at HO
    clear h1
    go_enter Try.func70, Try.ntmps70
    go_wp2_with fail
    refine (HO.out _).mono ?_
    rintro e w1 ⟨rfl, hb1⟩
    go_wp2
    go_ret2
    exact ⟨by rw [HR.out.1, HR.out.2]; rfl, by (repeat' (first | (with_reducible exact Below.refl _ _) | (with_reducible refine bel_alloc ?_ ?_ _) | (with_reducible refine Below.setCell ?_ ?_ _) | (with_reducible refine below_drewN ?_ _) | (with_reducible refine Below.drew ?_) | (with_reducible refine bel_step hb1 ?_ ?_) | (with_reducible exact Nat.le_refl _) | (with_reducible assumption) | omega | (simp only [World.size_alloc, World.size_setCell, World.size_drew]; omega) | (simp; omega) | (simp; done)))⟩
  | true =>
    obtain ⟨hP, hC, -⟩ := spOk_yes h1
    have hm := cs_pos hC
    have HCS := Lib.hid (fun W => classSize_i C W)
    have HI := Lib.hid (show inSp P C B a = btw a (P * 16) (P * 16 + 16 - 1) by rw [inSp, h1, Bool.true_and]; congr 1; omega)
    have HY := Lib.hid (@sAt_yes P C B a)
    rw [h1] at HO
    clear h1
    generalize cs C = m at *
    cases h2 : btw a (P * 16) (P * 16 + 16 - 1) with
    | false =>
      have HR := Lib.hid (sAt_no (HI.out.trans h2))
      have HB := Lib.hid h2
      clear h2
      go_enter Try.func70, Try.ntmps70
      go_wp2_with fail
      refine (HO.out _).mono ?_
      rintro e w1 ⟨rfl, hb1⟩
      have q0 : w1.cell? ⟨w.heap.size, 0, none⟩ = some (.int .i64 P) := keep hb1 (by simp [go_sem])
      have q1 : w1.cell? ⟨w.heap.size, 1, none⟩ = some (.int .i64 C) := keep hb1 (by simp [go_sem])
      have q2 : w1.cell? ⟨w.heap.size, 2, none⟩ = some (.int .i64 B) := keep hb1 (by simp [go_sem])
      go_wp2_with (go_at_call 67; refine (between_q _ _ _ _).mono ?_; rw [HB.out]; rintro e w1 ⟨rfl, rfl⟩)
      go_ret2
      exact ⟨by rw [HR.out.1, HR.out.2]; rfl, by (repeat' (first | (with_reducible exact Below.refl _ _) | (with_reducible refine bel_alloc ?_ ?_ _) | (with_reducible refine Below.setCell ?_ ?_ _) | (with_reducible refine below_drewN ?_ _) | (with_reducible refine Below.drew ?_) | (with_reducible refine bel_step hb1 ?_ ?_) | (with_reducible exact Nat.le_refl _) | (with_reducible assumption) | omega | (simp only [World.size_alloc, World.size_setCell, World.size_drew]; omega) | (simp; omega) | (simp; done)))⟩
    | true =>
      have HR := Lib.hid (HY.out (HI.out.trans h2))
      have hh := of_btw h2
      have HB := Lib.hid h2
      have hne : (m == 0) = false := by simp; omega
      obtain ⟨x, hx⟩ : ∃ x, x = a - P * 16 := ⟨_, rfl⟩
      clear h2
      go_enter Try.func70, Try.ntmps70
      go_wp2_with fail
      refine (HO.out _).mono ?_
      rintro e w1 ⟨rfl, hb1⟩
      have q0 : w1.cell? ⟨w.heap.size, 0, none⟩ = some (.int .i64 P) := keep hb1 (by simp [go_sem])
      have q1 : w1.cell? ⟨w.heap.size, 1, none⟩ = some (.int .i64 C) := keep hb1 (by simp [go_sem])
      have q2 : w1.cell? ⟨w.heap.size, 2, none⟩ = some (.int .i64 B) := keep hb1 (by simp [go_sem])
      go_wp2_with (go_at_call 67; refine (between_q _ _ _ _).mono ?_; rw [HB.out]; rintro e w1 ⟨rfl, rfl⟩)
      go_quiet ((go_at_call 65; exact Calls.quiet_of_same (HCS.out _)))
      go_wp2
      go_ret2
      exact ⟨by rw [HR.out.1, HR.out.2]; rfl, by (repeat' (first | (with_reducible exact Below.refl _ _) | (with_reducible refine bel_alloc ?_ ?_ _) | (with_reducible refine Below.setCell ?_ ?_ _) | (with_reducible refine below_drewN ?_ _) | (with_reducible refine Below.drew ?_) | (with_reducible refine bel_step hb1 ?_ ?_) | (with_reducible exact Nat.le_refl _) | (with_reducible assumption) | omega | (simp only [World.size_alloc, World.size_setCell, World.size_drew]; omega) | (simp; omega) | (simp; done)))⟩
end Go.Proofs.Ytjimpmdelnnflaa
