/- LargeTrim where it succeeds, of the program and of the reference. -/
import Derived.Test.YtoidaeehdekaoaaLargeD
import Derived.Deep.RegionHeld3
import Derived.Deep.DrawnRows
namespace Go.Proofs.Ytoidaeehdekaoaa
open Go.ChangeShapes Go.WideShapes Go.ChangeAt Go.RowKit
set_option linter.unusedVariables false
attribute [local go_sem ↓] Go.wp_at_zero Go.wp_at_succ

set_option maxHeartbeats 4000000 in
theorem largeTrim_i_eq (P N S Z : Int) (w : World) (h1 : lOk P N S = true) (h2 : btw Z 9 S = true) (h3 : pagesFor Z = N) :
    Calls Try.prog 26 #[.agg #[.int .i64 P, .int .i64 N, .int .i64 S], .int .i64 Z] w fun e w' => e = .returned (.tuple #[.agg #[.int .i64 P, .int .i64 N, .int .i64 Z], .agg #[.int .i64 0, .int .i64 0], .bool true]) ∧ Below w.heap.size w w' := by
  have H3 := Lib.hid h3
  have hq : ∀ W, Calls Try.prog 27 #[.int .i64 Z] W fun e w' => e = .returned (.int .i64 N) ∧ w' = W := fun W => h3 ▸ pages_i Z W
  clear h3
  go_enter Try.func26, Try.ntmps26
  go_wp2_with fail
  refine (largeOk_i _ _ _ _).mono ?_
  rintro e w1 ⟨rfl, hb⟩
  have hz : w.heap.size + 2 < w1.heap.size := by have := hb.size; simp at this; omega
  have hz0 : w.heap.size < w1.heap.size := by omega
  have hz1 : w.heap.size + 1 < w1.heap.size := by omega
  have hz2 : w.heap.size + 1 + 1 < w1.heap.size := by omega
  have b0 : w1.cell? ⟨w.heap.size, 0, none⟩ = some (.int .i64 P) := keep hb (by simp [go_sem])
  have b1 : w1.cell? ⟨w.heap.size, 1, none⟩ = some (.int .i64 N) := keep hb (by simp [go_sem])
  have b2 : w1.cell? ⟨w.heap.size, 2, none⟩ = some (.int .i64 S) := keep hb (by simp [go_sem])
  have c0 : w1.cell? ⟨w.heap.size + 1, 0, none⟩ = some (.int .i64 0) := keep hb (by simp [go_sem])
  have c1 : w1.cell? ⟨w.heap.size + 1, 1, none⟩ = some (.int .i64 0) := keep hb (by simp [go_sem])
  have c2 : w1.cell? ⟨w.heap.size + 1, 2, none⟩ = some (.int .i64 0) := keep hb (by simp [go_sem])
  have cf0 : w1.frozen? ⟨w.heap.size + 1, 0, none⟩ = false := keepf hb (by simp [go_sem]) (by simp [go_sem])
  have cf1 : w1.frozen? ⟨w.heap.size + 1, 1, none⟩ = false := keepf hb (by simp [go_sem]) (by simp [go_sem])
  have cf2 : w1.frozen? ⟨w.heap.size + 1, 2, none⟩ = false := keepf hb (by simp [go_sem]) (by simp [go_sem])
  have d0 : w1.cell? ⟨w.heap.size + 1 + 1, 0, none⟩ = some (.int .i64 0) := keep hb (by simp [go_sem])
  have d1 : w1.cell? ⟨w.heap.size + 1 + 1, 1, none⟩ = some (.int .i64 0) := keep hb (by simp [go_sem])
  have df0 : w1.frozen? ⟨w.heap.size + 1 + 1, 0, none⟩ = false := keepf hb (by simp [go_sem]) (by simp [go_sem])
  have df1 : w1.frozen? ⟨w.heap.size + 1 + 1, 1, none⟩ = false := keepf hb (by simp [go_sem]) (by simp [go_sem])
  go_wp2_with (go_at_call 31; refine (between_q _ _ _ _).mono ?_; rintro e w2 ⟨rfl, rfl⟩)
  go_region_held3 (fun w' => w'.cell? ⟨w.heap.size, 0, none⟩ = some (.int .i64 P)) (go_keep) (first | (go_at_call 27; refine (hq _).mono ?_; rintro e w2 ⟨rfl, rfl⟩))
  all_goals
    go_wp2
    refine bodyPost_ret (v := .tuple #[.agg #[.int .i64 P, .int .i64 N, .int .i64 Z], .agg #[.int .i64 0, .int .i64 0], .bool true]) (by simp [results, Try.results26, go_sem, c0, c1, c2, d0, d1, hz1, hz2]) rfl ⟨rfl, ?_⟩
    (repeat' (first | (with_reducible exact Below.refl _ _) | (with_reducible refine bel_alloc ?_ ?_ _) | (with_reducible refine Below.setCell ?_ ?_ _) | (with_reducible refine below_drewN ?_ _) | (with_reducible refine Below.drew ?_) | (with_reducible refine bel_step hb ?_ ?_) | (with_reducible exact Nat.le_refl _) | (with_reducible assumption) | omega | (simp only [World.size_alloc, World.size_setCell, World.size_drew]; omega) | (simp; omega) | (simp; done)))
set_option maxHeartbeats 4000000 in
theorem largeTrim_i_lt (P N S Z n : Int) (w : World) (h1 : lOk P N S = true) (h2 : btw Z 9 S = true) (h3 : pagesFor Z = n) (h4 : n < N) :
    Calls Try.prog 26 #[.agg #[.int .i64 P, .int .i64 N, .int .i64 S], .int .i64 Z] w fun e w' => e = .returned (.tuple #[.agg #[.int .i64 P, .int .i64 n, .int .i64 Z], .agg #[.int .i64 (P + n), .int .i64 (N - n)], .bool true]) ∧ Below w.heap.size w w' := by
  have H3 := Lib.hid h3
  have hq : ∀ W, Calls Try.prog 27 #[.int .i64 Z] W fun e w' => e = .returned (.int .i64 n) ∧ w' = W := fun W => h3 ▸ pages_i Z W
  have hn := (pagesFor_bd Z)
  rw [h3] at hn
  have hB := lOk_bd h1
  have hne : (n == N) = false := by simp; omega
  clear h3
  go_enter Try.func26, Try.ntmps26
  go_wp2_with fail
  refine (largeOk_i _ _ _ _).mono ?_
  rintro e w1 ⟨rfl, hb⟩
  have hz : w.heap.size + 2 < w1.heap.size := by have := hb.size; simp at this; omega
  have hz0 : w.heap.size < w1.heap.size := by omega
  have hz1 : w.heap.size + 1 < w1.heap.size := by omega
  have hz2 : w.heap.size + 1 + 1 < w1.heap.size := by omega
  have b0 : w1.cell? ⟨w.heap.size, 0, none⟩ = some (.int .i64 P) := keep hb (by simp [go_sem])
  have b1 : w1.cell? ⟨w.heap.size, 1, none⟩ = some (.int .i64 N) := keep hb (by simp [go_sem])
  have b2 : w1.cell? ⟨w.heap.size, 2, none⟩ = some (.int .i64 S) := keep hb (by simp [go_sem])
  have c0 : w1.cell? ⟨w.heap.size + 1, 0, none⟩ = some (.int .i64 0) := keep hb (by simp [go_sem])
  have c1 : w1.cell? ⟨w.heap.size + 1, 1, none⟩ = some (.int .i64 0) := keep hb (by simp [go_sem])
  have c2 : w1.cell? ⟨w.heap.size + 1, 2, none⟩ = some (.int .i64 0) := keep hb (by simp [go_sem])
  have cf0 : w1.frozen? ⟨w.heap.size + 1, 0, none⟩ = false := keepf hb (by simp [go_sem]) (by simp [go_sem])
  have cf1 : w1.frozen? ⟨w.heap.size + 1, 1, none⟩ = false := keepf hb (by simp [go_sem]) (by simp [go_sem])
  have cf2 : w1.frozen? ⟨w.heap.size + 1, 2, none⟩ = false := keepf hb (by simp [go_sem]) (by simp [go_sem])
  have d0 : w1.cell? ⟨w.heap.size + 1 + 1, 0, none⟩ = some (.int .i64 0) := keep hb (by simp [go_sem])
  have d1 : w1.cell? ⟨w.heap.size + 1 + 1, 1, none⟩ = some (.int .i64 0) := keep hb (by simp [go_sem])
  have df0 : w1.frozen? ⟨w.heap.size + 1 + 1, 0, none⟩ = false := keepf hb (by simp [go_sem]) (by simp [go_sem])
  have df1 : w1.frozen? ⟨w.heap.size + 1 + 1, 1, none⟩ = false := keepf hb (by simp [go_sem]) (by simp [go_sem])
  go_wp2_with (go_at_call 31; refine (between_q _ _ _ _).mono ?_; rintro e w2 ⟨rfl, rfl⟩)
  go_region_held3 (fun w' => w'.cell? ⟨w.heap.size, 0, none⟩ = some (.int .i64 P)) (go_keep) (first | (go_at_call 27; refine (hq _).mono ?_; rintro e w2 ⟨rfl, rfl⟩))
  all_goals
    go_wp2
    go_region
    all_goals
      go_wp2
      refine bodyPost_ret (v := .tuple #[.agg #[.int .i64 P, .int .i64 n, .int .i64 Z], .agg #[.int .i64 (P + n), .int .i64 (N - n)], .bool true]) (by simp [results, Try.results26, go_sem, c0, c1, c2, d0, d1, hz1, hz2]) rfl ⟨rfl, ?_⟩
      (repeat' (first | (with_reducible exact Below.refl _ _) | (with_reducible refine bel_alloc ?_ ?_ _) | (with_reducible refine Below.setCell ?_ ?_ _) | (with_reducible refine below_drewN ?_ _) | (with_reducible refine Below.drew ?_) | (with_reducible refine bel_step hb ?_ ?_) | (with_reducible exact Nat.le_refl _) | (with_reducible assumption) | omega | (simp only [World.size_alloc, World.size_setCell, World.size_drew]; omega) | (simp; omega) | (simp; done)))
end Go.Proofs.Ytoidaeehdekaoaa
