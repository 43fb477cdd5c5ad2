/- copyQuar, l22Copy. -/
import Derived.Test.YteafpfmndjeanaaQuarA
import Derived.Test.YteafpfmndjeanaaApp
import Derived.Deep.RegionHeld3
import Derived.Deep.DrawnRows
namespace Go.Proofs.Yteafpfmndjeanaa
open Go.ChangeShapes Go.WideShapes Go.ChangeAt Go.RowKit
set_option linter.unusedVariables false
attribute [local go_sem ↓] Go.wp_at_zero Go.wp_at_succ

def MadeQuarO (r : Int) (xs : List (Int × Int × Int)) (w : World) (e : Ending) (w' : World) : Prop :=
  ∃ A c, e = .returned (.agg #[.int .i64 r, .slice A xs.length c]) ∧ Ow w' w.heap.size w'.heap.size 47 3 A xs.length c (tv xs) ∧ Below w.heap.size w w'
set_option maxHeartbeats 4000000 in
theorem copyQuar_any (r : Int) (A : Option Addr) (n c : Nat) (xs : List (Int × Int × Int)) (w : World) {B : Nat} (hr : Rd w B A (tv xs)) (hl : xs.length = n) (hn : n ≤ 1048577) :
    Calls Try.prog 45 #[.agg #[.int .i64 r, .slice A n c]] w (MadeQuarO r xs w) := by
  subst hl
  obtain ⟨i0, hi, hz0, hz1, hz2⟩ := info_parts infoStale
  have hone := tv_one xs
  have hlen := tv_length xs
  have hr1 := (hr.alloc (.cells #[.int .i64 r, .slice A xs.length c] 24)).alloc (.cells #[.int .i64 0, .slice none 0 0] 24)
  have hone := Lib.hid hone
  have hlen := Lib.hid hlen
  go_enter Try.func45, Try.ntmps45
  go_wp2_with fail
  go_region_held3 (fun w' => w'.cell? ⟨w.heap.size, 0, none⟩ = some (.int .i64 r) ∧ w'.cell? ⟨w.heap.size, 1, none⟩ = some (.slice A xs.length c)) (first | go_keep | exact ⟨hS.cell (by simp [go_sem]) (by simp <;> omega), hS.cell (by simp [go_sem]) (by simp <;> omega)⟩)
    ((refine step_append_new (by rfl) _ _ _ (by rfl) 47 i0 (.agg #[.int .i64 0, .int .i64 0, .int .i64 0]) 3 24 Try.underlying22 hi hz0 hz1 hz2 rfl (by omega) (w.heap.size + 1 + 1) (by rfl) (own_lit (by simp)) A xs.length c (tv xs) (by rfl) hlen.out (hr1.drew.alloc _) hone.out (by unfold maxLen; omega) (by omega) (by simp) ?_; intro A' c' w' hO hS hA; have f0 : w'.cell? ⟨w.heap.size + 1, 0, none⟩ = some (.int .i64 0) := hS.cell (by simp [go_sem]) (by simp); have f1 : w'.cell? ⟨w.heap.size + 1, 1, none⟩ = some (.slice none 0 0) := hS.cell (by simp [go_sem]) (by simp); have g0 : w'.frozen? ⟨w.heap.size + 1, 0, none⟩ = false := (hS.frozen (by simp) (by simp)).trans (by simp [go_sem]); have g1 : w'.frozen? ⟨w.heap.size + 1, 1, none⟩ = false := (hS.frozen (by simp) (by simp)).trans (by simp [go_sem])))
  go_wp2
  have hl : ∀ b, b = w.heap.size + 1 + 1 → w.heap.size ≤ b := by intro b hb; omega
  refine bodyPost_ret (v := .agg #[.int .i64 r, .slice A' xs.length c']) (by simp [results, Try.results45, go_sem, f0, f1]) rfl ⟨A', c', rfl, ?_, ?_⟩
  · simp only [World.size_setCell]
    exact ((hO.set _ (.inl (by omega))).set _ (.inl (by omega))).mono (by omega) (Nat.le_refl _)
  · (repeat' (first | (with_reducible exact Below.refl _ _) | (with_reducible refine bel_alloc ?_ ?_ _) | (with_reducible refine Below.setCell ?_ ?_ _) | (with_reducible refine below_drewN ?_ _) | (with_reducible refine Below.drew ?_) | (with_reducible refine bel_outS hS hl ?_ ?_) | (with_reducible exact Nat.le_refl _) | (with_reducible assumption) | omega | (simp only [World.size_alloc, World.size_setCell, World.size_drew]; omega) | (simp; omega) | (simp; done)))
set_option maxHeartbeats 4000000 in
theorem l22Copy_any (r : Int) (A : Option Addr) (n c : Nat) (xs : List (Int × Int × Int)) (w : World) {B : Nat} (hr : Rd w B A (tv xs)) (hl : xs.length = n) (hn : n ≤ 1048577) :
    Calls Try.prog 47 #[.agg #[.int .i64 r, .slice A n c]] w (MadeQuarO r xs w) := by
  subst hl
  obtain ⟨i0, hi, hz0, hz1, hz2⟩ := info_parts infoStale
  have hone := tv_one xs
  have hlen := tv_length xs
  have hr1 := (hr.alloc (.cells #[.int .i64 r, .slice A xs.length c] 24)).alloc (.cells #[.int .i64 0, .slice none 0 0] 24)
  have hone := Lib.hid hone
  have hlen := Lib.hid hlen
  go_enter Try.func47, Try.ntmps47
  go_wp2_with fail
  go_region_held3 (fun w' => w'.cell? ⟨w.heap.size, 0, none⟩ = some (.int .i64 r) ∧ w'.cell? ⟨w.heap.size, 1, none⟩ = some (.slice A xs.length c)) (first | go_keep | exact ⟨hS.cell (by simp [go_sem]) (by simp <;> omega), hS.cell (by simp [go_sem]) (by simp <;> omega)⟩)
    ((refine step_append_new (by rfl) _ _ _ (by rfl) 47 i0 (.agg #[.int .i64 0, .int .i64 0, .int .i64 0]) 3 24 Try.underlying22 hi hz0 hz1 hz2 rfl (by omega) (w.heap.size + 1 + 1) (by rfl) (own_lit (by simp)) A xs.length c (tv xs) (by rfl) hlen.out (hr1.drew.alloc _) hone.out (by unfold maxLen; omega) (by omega) (by simp) ?_; intro A' c' w' hO hS hA; have f0 : w'.cell? ⟨w.heap.size + 1, 0, none⟩ = some (.int .i64 0) := hS.cell (by simp [go_sem]) (by simp); have f1 : w'.cell? ⟨w.heap.size + 1, 1, none⟩ = some (.slice none 0 0) := hS.cell (by simp [go_sem]) (by simp); have g0 : w'.frozen? ⟨w.heap.size + 1, 0, none⟩ = false := (hS.frozen (by simp) (by simp)).trans (by simp [go_sem]); have g1 : w'.frozen? ⟨w.heap.size + 1, 1, none⟩ = false := (hS.frozen (by simp) (by simp)).trans (by simp [go_sem])))
  go_wp2
  have hl : ∀ b, b = w.heap.size + 1 + 1 → w.heap.size ≤ b := by intro b hb; omega
  refine bodyPost_ret (v := .agg #[.int .i64 r, .slice A' xs.length c']) (by simp [results, Try.results47, go_sem, f0, f1]) rfl ⟨A', c', rfl, ?_, ?_⟩
  · simp only [World.size_setCell]
    exact ((hO.set _ (.inl (by omega))).set _ (.inl (by omega))).mono (by omega) (Nat.le_refl _)
  · (repeat' (first | (with_reducible exact Below.refl _ _) | (with_reducible refine bel_alloc ?_ ?_ _) | (with_reducible refine Below.setCell ?_ ?_ _) | (with_reducible refine below_drewN ?_ _) | (with_reducible refine Below.drew ?_) | (with_reducible refine bel_outS hS hl ?_ ?_) | (with_reducible exact Nat.le_refl _) | (with_reducible assumption) | omega | (simp only [World.size_alloc, World.size_setCell, World.size_drew]; omega) | (simp; omega) | (simp; done)))
end Go.Proofs.Yteafpfmndjeanaa
