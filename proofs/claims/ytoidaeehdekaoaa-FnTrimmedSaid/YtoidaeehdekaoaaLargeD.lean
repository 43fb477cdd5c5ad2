/- LargeTrim, of the program and of the reference. -/
import Derived.Test.YtoidaeehdekaoaaLargeC
import Derived.Deep.RegionWith
namespace Go.Proofs.Ytoidaeehdekaoaa
open Go.ChangeShapes Go.WideShapes Go.ChangeAt Go.RowKit
set_option linter.unusedVariables false

theorem pagesFor_mono {Z S : Int} (h1 : 9 ≤ Z) (h2 : Z ≤ S) (h3 : S ≤ 1000) : 1 ≤ pagesFor Z ∧ pagesFor Z ≤ pagesFor S := by
  rw [pagesFor_in h1 (by omega), pagesFor_in (by omega) h3]; omega

set_option maxHeartbeats 4000000 in
theorem largeTrim_i_no1 (P N S Z : Int) (w : World) (h1 : lOk P N S = false) :
    Calls Try.prog 26 #[.agg #[.int .i64 P, .int .i64 N, .int .i64 S], .int .i64 Z] w fun e w' => e = .returned (.tuple #[.agg #[.int .i64 P, .int .i64 N, .int .i64 S], .agg #[.int .i64 0, .int .i64 0], .bool false]) ∧ Below w.heap.size w w' := by
  go_enter Try.func26, Try.ntmps26
  go_wp2_with fail
  refine (largeOk_i _ _ _ _).mono ?_
  rintro e w1 ⟨rfl, hb⟩
  obtain ⟨hc, hf⟩ := bcell hb
  have hz : w.heap.size + 2 < w1.heap.size := by have := hb.size; simp at this; omega
  have c0 : w1.cell? ⟨w.heap.size + 1, 0, none⟩ = some (.int .i64 0) := keep hb (by simp [go_sem])
  have c1 : w1.cell? ⟨w.heap.size + 1, 1, none⟩ = some (.int .i64 0) := keep hb (by simp [go_sem])
  have c2 : w1.cell? ⟨w.heap.size + 1, 2, none⟩ = some (.int .i64 0) := keep hb (by simp [go_sem])
  have d0 : w1.cell? ⟨w.heap.size + 1 + 1, 0, none⟩ = some (.int .i64 0) := keep hb (by simp [go_sem])
  have d1 : w1.cell? ⟨w.heap.size + 1 + 1, 1, none⟩ = some (.int .i64 0) := keep hb (by simp [go_sem])
  go_wp2
  refine bodyPost_ret (v := .tuple #[.agg #[.int .i64 P, .int .i64 N, .int .i64 S], .agg #[.int .i64 0, .int .i64 0], .bool false]) (by simp [results, Try.results26, go_sem, c0, c1, c2, d0, d1]) rfl ⟨rfl, ?_⟩
  (repeat' (first | (with_reducible exact Below.refl _ _) | (with_reducible refine bel_alloc ?_ ?_ _) | (with_reducible refine Below.setCell ?_ ?_ _) | (with_reducible refine below_drewN ?_ _) | (with_reducible refine Below.drew ?_) | (with_reducible refine bel_step hb ?_ ?_) | (with_reducible exact Nat.le_refl _) | (with_reducible assumption) | omega | (simp only [World.size_alloc, World.size_setCell, World.size_drew]; omega) | (simp; omega) | (simp; done)))
set_option maxHeartbeats 4000000 in
theorem largeTrim_i_no2 (P N S Z : Int) (w : World) (h1 : lOk P N S = true) (h2 : btw Z 9 S = false) :
    Calls Try.prog 26 #[.agg #[.int .i64 P, .int .i64 N, .int .i64 S], .int .i64 Z] w fun e w' => e = .returned (.tuple #[.agg #[.int .i64 P, .int .i64 N, .int .i64 S], .agg #[.int .i64 0, .int .i64 0], .bool false]) ∧ Below w.heap.size w w' := by
  go_enter Try.func26, Try.ntmps26
  go_wp2_with fail
  refine (largeOk_i _ _ _ _).mono ?_
  rintro e w1 ⟨rfl, hb⟩
  obtain ⟨hc, hf⟩ := bcell hb
  have hz : w.heap.size + 2 < w1.heap.size := by have := hb.size; simp at this; omega
  have c0 : w1.cell? ⟨w.heap.size + 1, 0, none⟩ = some (.int .i64 0) := keep hb (by simp [go_sem])
  have c1 : w1.cell? ⟨w.heap.size + 1, 1, none⟩ = some (.int .i64 0) := keep hb (by simp [go_sem])
  have c2 : w1.cell? ⟨w.heap.size + 1, 2, none⟩ = some (.int .i64 0) := keep hb (by simp [go_sem])
  have d0 : w1.cell? ⟨w.heap.size + 1 + 1, 0, none⟩ = some (.int .i64 0) := keep hb (by simp [go_sem])
  have d1 : w1.cell? ⟨w.heap.size + 1 + 1, 1, none⟩ = some (.int .i64 0) := keep hb (by simp [go_sem])
  go_wp2_with (go_at_call 31; refine (between_q _ _ _ _).mono ?_; rintro e w2 ⟨rfl, rfl⟩)
  refine bodyPost_ret (v := .tuple #[.agg #[.int .i64 P, .int .i64 N, .int .i64 S], .agg #[.int .i64 0, .int .i64 0], .bool false]) (by simp [results, Try.results26, go_sem, c0, c1, c2, d0, d1]) rfl ⟨rfl, ?_⟩
  (repeat' (first | (with_reducible exact Below.refl _ _) | (with_reducible refine bel_alloc ?_ ?_ _) | (with_reducible refine Below.setCell ?_ ?_ _) | (with_reducible refine below_drewN ?_ _) | (with_reducible refine Below.drew ?_) | (with_reducible refine bel_step hb ?_ ?_) | (with_reducible exact Nat.le_refl _) | (with_reducible assumption) | omega | (simp only [World.size_alloc, World.size_setCell, World.size_drew]; omega) | (simp; omega) | (simp; done)))
set_option maxHeartbeats 4000000 in
theorem largeTrim_s_no1 (P N S Z : Int) (w : World) (h1 : lOk P N S = false) :
    Calls Try.prog 28 #[.agg #[.int .i64 P, .int .i64 N, .int .i64 S], .int .i64 Z] w fun e w' => e = .returned (.tuple #[.agg #[.int .i64 P, .int .i64 N, .int .i64 S], .agg #[.int .i64 0, .int .i64 0], .bool false]) ∧ Below w.heap.size w w' := by
  go_enter Try.func28, Try.ntmps28
  go_wp2_with fail
  refine (largeOk_s _ _ _ _).mono ?_
  rintro e w1 ⟨rfl, hb⟩
  obtain ⟨hc, hf⟩ := bcell hb
  have hz : w.heap.size + 2 < w1.heap.size := by have := hb.size; simp at this; omega
  have c0 : w1.cell? ⟨w.heap.size + 1, 0, none⟩ = some (.int .i64 0) := keep hb (by simp [go_sem])
  have c1 : w1.cell? ⟨w.heap.size + 1, 1, none⟩ = some (.int .i64 0) := keep hb (by simp [go_sem])
  have c2 : w1.cell? ⟨w.heap.size + 1, 2, none⟩ = some (.int .i64 0) := keep hb (by simp [go_sem])
  have d0 : w1.cell? ⟨w.heap.size + 1 + 1, 0, none⟩ = some (.int .i64 0) := keep hb (by simp [go_sem])
  have d1 : w1.cell? ⟨w.heap.size + 1 + 1, 1, none⟩ = some (.int .i64 0) := keep hb (by simp [go_sem])
  go_wp2
  refine bodyPost_ret (v := .tuple #[.agg #[.int .i64 P, .int .i64 N, .int .i64 S], .agg #[.int .i64 0, .int .i64 0], .bool false]) (by simp [results, Try.results28, go_sem, c0, c1, c2, d0, d1]) rfl ⟨rfl, ?_⟩
  (repeat' (first | (with_reducible exact Below.refl _ _) | (with_reducible refine bel_alloc ?_ ?_ _) | (with_reducible refine Below.setCell ?_ ?_ _) | (with_reducible refine below_drewN ?_ _) | (with_reducible refine Below.drew ?_) | (with_reducible refine bel_step hb ?_ ?_) | (with_reducible exact Nat.le_refl _) | (with_reducible assumption) | omega | (simp only [World.size_alloc, World.size_setCell, World.size_drew]; omega) | (simp; omega) | (simp; done)))
set_option maxHeartbeats 4000000 in
theorem largeTrim_s_no2 (P N S Z : Int) (w : World) (h1 : lOk P N S = true) (h2 : btw Z 9 S = false) :
    Calls Try.prog 28 #[.agg #[.int .i64 P, .int .i64 N, .int .i64 S], .int .i64 Z] w fun e w' => e = .returned (.tuple #[.agg #[.int .i64 P, .int .i64 N, .int .i64 S], .agg #[.int .i64 0, .int .i64 0], .bool false]) ∧ Below w.heap.size w w' := by
  go_enter Try.func28, Try.ntmps28
  go_wp2_with fail
  refine (largeOk_s _ _ _ _).mono ?_
  rintro e w1 ⟨rfl, hb⟩
  obtain ⟨hc, hf⟩ := bcell hb
  have hz : w.heap.size + 2 < w1.heap.size := by have := hb.size; simp at this; omega
  have c0 : w1.cell? ⟨w.heap.size + 1, 0, none⟩ = some (.int .i64 0) := keep hb (by simp [go_sem])
  have c1 : w1.cell? ⟨w.heap.size + 1, 1, none⟩ = some (.int .i64 0) := keep hb (by simp [go_sem])
  have c2 : w1.cell? ⟨w.heap.size + 1, 2, none⟩ = some (.int .i64 0) := keep hb (by simp [go_sem])
  have d0 : w1.cell? ⟨w.heap.size + 1 + 1, 0, none⟩ = some (.int .i64 0) := keep hb (by simp [go_sem])
  have d1 : w1.cell? ⟨w.heap.size + 1 + 1, 1, none⟩ = some (.int .i64 0) := keep hb (by simp [go_sem])
  go_wp2_with (go_at_call 30; refine (l01In_q _ _ _ _).mono ?_; rintro e w2 ⟨rfl, rfl⟩)
  refine bodyPost_ret (v := .tuple #[.agg #[.int .i64 P, .int .i64 N, .int .i64 S], .agg #[.int .i64 0, .int .i64 0], .bool false]) (by simp [results, Try.results28, go_sem, c0, c1, c2, d0, d1]) rfl ⟨rfl, ?_⟩
  (repeat' (first | (with_reducible exact Below.refl _ _) | (with_reducible refine bel_alloc ?_ ?_ _) | (with_reducible refine Below.setCell ?_ ?_ _) | (with_reducible refine below_drewN ?_ _) | (with_reducible refine Below.drew ?_) | (with_reducible refine bel_step hb ?_ ?_) | (with_reducible exact Nat.le_refl _) | (with_reducible assumption) | omega | (simp only [World.size_alloc, World.size_setCell, World.size_drew]; omega) | (simp; omega) | (simp; done)))
end Go.Proofs.Ytoidaeehdekaoaa
