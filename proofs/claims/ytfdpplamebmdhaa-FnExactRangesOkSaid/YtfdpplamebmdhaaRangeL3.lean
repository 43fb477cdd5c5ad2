/- The walk of the exact law on RangesOk. -/
import Derived.Test.YtfdpplamebmdhaaRangeU2
import Derived.Test.YtfdpplamebmdhaaRangeM
import Derived.Deep.RegionHeld3
import Derived.Deep.DrawnRows
namespace Go.Proofs.Ytfdpplamebmdhaa
open Go.ChangeShapes Go.WideShapes Go.ChangeAt Go.RowKit
set_option linter.unusedVariables false
attribute [local go_sem ↓] Go.wp_at_zero Go.wp_at_succ

set_option maxHeartbeats 16000000 in
set_option maxRecDepth 100000 in
theorem law_rangesOk (p0 : Int) (A1 : Option Addr) (c1 : Nat) (x1 : List (Int × Int)) (w : World) (hp0 : -9223372036854775808 ≤ p0 ∧ p0 ≤ 9223372036854775807) (hr10 : Rd w w.heap.size A1 (pv x1)) (hm10 : x1.length ≤ maxLen) : Calls Try.prog 6 #[.int .i64 p0, .slice A1 x1.length c1] w fun e w' => e = .returned (.bool true) ∧ Below w.heap.size w w' := by
  go_enter Try.func6, Try.ntmps6
  go_wp2_with fail
  refine (szRangeS_any _ _ _ _ _ (by omega) (by omega) hm10).mono ?_
  rintro e u1 ⟨rz1, rfl, qz1, sz1, hb1⟩
  replace hr10 := hr10.below hb1
  have hz1 := hb1.size
  try simp only [World.size_alloc, World.size_drew] at hz1
  by_cases hneg1 : rz1 < 0
  · go_wp2
    go_ret
    exact ⟨rfl, by (repeat' (first | (with_reducible exact Below.refl _ _) | (with_reducible refine bel_alloc ?_ ?_ _) | (with_reducible refine Below.setCell ?_ ?_ _) | (with_reducible refine below_drewN ?_ _) | (with_reducible refine Below.drew ?_) | (with_reducible refine bel_step hb1 ?_ ?_) | (with_reducible exact Nat.le_refl _) | (with_reducible assumption) | omega | (simp only [World.size_alloc, World.size_setCell, World.size_drew]; omega) | (simp; omega) | (simp; done)))⟩
  have hn10 : x1.length ≤ 1048576 := by have := sz1 (by omega); first | omega | exact ⟨by omega, this.2⟩
  clear sz1 qz1
  go_wp2_with fail
  refine (toRangeS_w _ _ _ _ hr10 hn10).mono ?_
  rintro e u2 ⟨A1w, c1w, Sw10, rfl, kw10, ow10, hSw10, hb2⟩
  replace hr10 := hr10.below hb2
  have hz2 := hb2.size
  try simp only [World.size_alloc, World.size_drew] at hz2
  replace hSw10 : ∀ b, Sw10 b → u1.heap.size + 0 ≤ b ∧ b < u2.heap.size := fun b hb => by have := hSw10 b hb; (try simp only [World.size_alloc, World.size_drew] at this); omega
  go_wp2_with fail
  refine (rangesOk_s _ _ _ _ _ ow10.rd hn10 hp0).mono ?_
  rintro e u3 ⟨rfl, hb3⟩
  replace hr10 := hr10.below hb3
  replace ow10 := ow10.below hb3
  have hz3 := hb3.size
  try simp only [World.size_alloc, World.size_drew] at hz3
  go_wp2_with fail
  refine (toRangeS_w _ _ _ _ hr10 hn10).mono ?_
  rintro e u4 ⟨A1x, c1x, Sx10, rfl, kx10, ox10, hSx10, hb4⟩
  replace hr10 := hr10.below hb4
  have hz4 := hb4.size
  try simp only [World.size_alloc, World.size_drew] at hz4
  replace hSx10 : ∀ b, Sx10 b → u3.heap.size + 0 ≤ b ∧ b < u4.heap.size := fun b hb => by have := hSx10 b hb; (try simp only [World.size_alloc, World.size_drew] at this); omega
  go_wp2_with fail
  refine (rangesOk_i _ _ _ _ _ ox10.rd hn10 hp0).mono ?_
  rintro e u5 ⟨rfl, hb5⟩
  replace hr10 := hr10.below hb5
  replace ox10 := ox10.below hb5
  have hz5 := hb5.size
  try simp only [World.size_alloc, World.size_drew] at hz5
  go_wp2_with fail
  refine (toRangeS_w _ _ _ _ hr10 hn10).mono ?_
  rintro e u6 ⟨A1y1, c1y1, Sy110, rfl, ky110, oy110, hSy110, hb6⟩
  replace hr10 := hr10.below hb6
  replace ox10 := ox10.below hb6
  have hz6 := hb6.size
  try simp only [World.size_alloc, World.size_drew] at hz6
  replace hSy110 : ∀ b, Sy110 b → u5.heap.size + 0 ≤ b ∧ b < u6.heap.size := fun b hb => by have := hSy110 b hb; (try simp only [World.size_alloc, World.size_drew] at this); omega
  go_wp2_with fail
  refine (eqRangeS_same _ _ _ _ _ _ ox10.rd oy110.rd hn10).mono ?_
  rintro e u7 ⟨rfl, hb7⟩
  replace hr10 := hr10.below hb7
  replace ox10 := ox10.below hb7
  replace oy110 := oy110.below hb7
  have hz7 := hb7.size
  try simp only [World.size_alloc, World.size_drew] at hz7
  all_goals
    go_wp2
    go_ret
    exact ⟨rfl, by (repeat' (first | (with_reducible exact Below.refl _ _) | (with_reducible refine bel_alloc ?_ ?_ _) | (with_reducible refine Below.setCell ?_ ?_ _) | (with_reducible refine below_drewN ?_ _) | (with_reducible refine Below.drew ?_) | (with_reducible refine bel_step hb1 ?_ ?_) | (with_reducible refine bel_step hb2 ?_ ?_) | (with_reducible refine bel_step hb3 ?_ ?_) | (with_reducible refine bel_step hb4 ?_ ?_) | (with_reducible refine bel_step hb5 ?_ ?_) | (with_reducible refine bel_step hb6 ?_ ?_) | (with_reducible refine bel_step hb7 ?_ ?_) | (with_reducible exact Nat.le_refl _) | (with_reducible assumption) | omega | (simp only [World.size_alloc, World.size_setCell, World.size_drew]; omega) | (simp; omega) | (simp; done)))⟩
end Go.Proofs.Ytfdpplamebmdhaa
