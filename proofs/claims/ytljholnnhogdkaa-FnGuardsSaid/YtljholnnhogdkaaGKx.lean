/- l05Free, l08Has, l08Mode of the reference, at two frames and one free page. -/
import Derived.Test.YtljholnnhogdkaaGKk
namespace Go.Proofs.Ytljholnnhogdkaa
open Go.ChangeShapes Go.WideShapes Go.ChangeAt Go.RowKit
set_option linter.unusedVariables false
set_option linter.unusedSimpArgs false
attribute [local go_sem ↓] Go.wp_at_zero Go.wp_at_succ

set_option maxHeartbeats 8000000 in
theorem l05Free_z (A : Option Addr) (c : Nat) (B : Option Addr) (d : Nat) (w : World) {B2 : Nat} (hs : Rd w B2 B (bl uz)) :
    Calls Try.prog 67 #[.agg #[.slice A 2 c, .slice B 2 d]] w fun e w' => e = .returned (.int .i64 0) ∧ Below w.heap.size w w' := by
  obtain ⟨b, off, rfl, -, hc⟩ := hs.lt.bool (k := 0) (by show 0 < 2; omega)
  have hc' : w.cell? ⟨b, off, none⟩ = some (.bool false) := hc
  have lc := lt_of_cell' hc'
  have i1 : (0 : Int) < 2 := by omega
  clear hc
  go_enter Try.func67, Try.ntmps67
  go_wp2
  go_loopw [3] (fun v wr => v = .int .i64 0 ∧ wr = w.alloc (.cells #[.slice A 2 c, .slice (some ⟨b, off, none⟩) 2 d] 42)) (fun v _ => 0)
  case atStart => exact ⟨rfl, rfl⟩
  case round =>
  obtain ⟨rfl, rfl⟩ := hrel
  go_wp2
  go_ret
  exact ⟨rfl, by (repeat' (first | (with_reducible exact Below.refl _ _) | (with_reducible refine bel_alloc ?_ ?_ _) | (with_reducible refine Below.setCell ?_ ?_ _) | (with_reducible refine below_drewN ?_ _) | (with_reducible refine Below.drew ?_) | (with_reducible exact Nat.le_refl _) | (with_reducible assumption) | omega | (simp only [World.size_alloc, World.size_setCell, World.size_drew]; omega) | (simp; omega) | (simp; done)))⟩
set_option maxHeartbeats 8000000 in
theorem l08Has_z (AR : Option Addr) (r : Nat) (x : Int) (w : World) :
    Calls Try.prog 83 #[.slice AR 0 r, .int .i64 x] w fun e w' => e = .returned (.bool false) ∧ w' = w := by
  go_enter Try.func83, Try.ntmps83
  go_wp2
  go_loopw [5] (fun v wr => v = .int .i64 0 ∧ wr = w) (fun v _ => 0)
  case atStart => exact ⟨rfl, rfl⟩
  case round =>
  obtain ⟨rfl, rfl⟩ := hrel
  go_wp2
  go_ret
  exact ⟨rfl, rfl⟩
set_option maxHeartbeats 8000000 in
theorem l08Mode_z (gK : Nat) (A : Option Addr) (c : Nat) (w : World) {B : Nat} (hr : Rd w B A (pv ez)) (g2 : w.cell? ⟨gK, 2, none⟩ = some (.slice A 2 c)) :
    Calls Try.prog 69 #[.pointer (some ⟨gK, 0, none⟩), .int .i64 0] w fun e w' => e = .returned (.int .i64 0) ∧ Below w.heap.size w w' := by
  have HPE := Lib.hid (fun (W : World) (B : Nat) (hr : Rd W B A (pv ez)) => (show Calls Try.prog 75 #[.agg #[.slice A 2 c], .int .i64 0] W _ from pageEntry_s A c ez 0 W hr (by show 2 ≤ _; omega) 0 0 (by decide)))
  have lg := lt_of_cell' g2
  go_enter Try.func69, Try.ntmps69
  go_wp2_with fail
  refine (HPE.out _ _ hr).mono ?_
  rintro e w1 ⟨rfl, hb1⟩
  have hfld : ∀ (W : World), (Instr.field 79 (.agg #[.int .i64 0, .int .i64 0]) 0).run Try.prog W = .ok (.int .i64 0) W := fun _ => by kernel_rfl
  go_wp2
  go_ret
  exact ⟨rfl, hb1⟩
set_option maxHeartbeats 8000000 in
theorem l08May_z (A : Option Addr) (c : Nat) (B : Option Addr) (d : Nat) (AE : Option Addr) (f : Nat) (AR : Option Addr) (r : Nat) (w : World) {B1 B2 B3 : Nat} (hr : Rd2 iv w B1 A (m2 z16)) (hs : Rd w B2 B (bl uz)) (ht : Rd w B3 AE (pv ez)) :
    Calls Try.prog 45 #[.agg #[.slice A 2 c, .slice B 2 d, .slice AE 2 f, .int .i64 0, .slice AR 0 r]] w fun e w' => e = .returned (.bool true) ∧ Below w.heap.size w w' := by
  go_enter Try.func45, Try.ntmps45
  go_wp2_with fail
  refine (kernelOk_s _ _ _ _ _ _ _ _ _ (hr.alloc _) (hs.alloc _) (ht.alloc _)).mono ?_
  rintro e w1 ⟨rfl, hb1⟩
  have k0 : w1.cell? ⟨w.heap.size, 0, none⟩ = some (.slice A 2 c) := keep hb1 (by simp [go_sem])
  have k1 : w1.cell? ⟨w.heap.size, 1, none⟩ = some (.slice B 2 d) := keep hb1 (by simp [go_sem])
  have k2 : w1.cell? ⟨w.heap.size, 2, none⟩ = some (.slice AE 2 f) := keep hb1 (by simp [go_sem])
  have k3 : w1.cell? ⟨w.heap.size, 3, none⟩ = some (.int .i64 0) := keep hb1 (by simp [go_sem])
  have k4 : w1.cell? ⟨w.heap.size, 4, none⟩ = some (.slice AR 0 r) := keep hb1 (by simp [go_sem])
  go_wp2
  go_ret
  exact ⟨rfl, by (repeat' (first | (with_reducible exact Below.refl _ _) | (with_reducible refine bel_alloc ?_ ?_ _) | (with_reducible refine Below.setCell ?_ ?_ _) | (with_reducible refine below_drewN ?_ _) | (with_reducible refine Below.drew ?_) | (with_reducible refine bel_step hb1 ?_ ?_) | (with_reducible exact Nat.le_refl _) | (with_reducible assumption) | omega | (simp only [World.size_alloc, World.size_setCell, World.size_drew]; omega) | (simp; omega) | (simp; done)))⟩
set_option maxHeartbeats 8000000 in
theorem l08Call_z (gK : Nat) (AR : Option Addr) (r : Nat) (w : World) (g3 : Cl w ⟨gK, 3, none⟩ (.int .i64 0)) (g4 : Cl w ⟨gK, 4, none⟩ (.slice AR 0 r)) :
    Calls Try.prog 68 #[.pointer (some ⟨gK, 0, none⟩)] w fun e w' => e = .returned (.bool true) ∧ ∃ n, w' = (w.setCell ⟨gK, 3, none⟩ (.int .i64 1)).drewN n := by
  obtain ⟨g3c, g3f⟩ := g3
  obtain ⟨g4c, g4f⟩ := g4
  have lg := lt_of_cell' g3c
  go_enter Try.func68, Try.ntmps68
  go_wp2_with fail
  go_quiet ((go_at_call 83; exact Calls.quiet_of_same (l08Has_z _ _ _ _)))
  go_wp2
  go_ret
  exact ⟨rfl, _, rfl⟩
end Go.Proofs.Ytljholnnhogdkaa
