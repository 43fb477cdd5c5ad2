/- The walk of the exact law on RangeHas. -/
import Derived.Test.YtfdpplamebmdhaaRangeT
import Derived.Deep.RegionHeld3
import Derived.Deep.DrawnRows
namespace Go.Proofs.Ytfdpplamebmdhaa
open Go.ChangeShapes Go.WideShapes Go.ChangeAt Go.RowKit
set_option linter.unusedVariables false
attribute [local go_sem ↓] Go.wp_at_zero Go.wp_at_succ

set_option maxHeartbeats 8000000 in
theorem law_rangeHas (A0 : Option Addr) (c0 : Nat) (x0 : List (Int × Int)) (p : Int) (w : World) (hr00 : Rd w w.heap.size A0 (pv x0)) (hm00 : x0.length ≤ maxLen) : Calls Try.prog 5 #[.slice A0 x0.length c0, .int .i64 p] w fun e w' => e = .returned (.bool true) ∧ Below w.heap.size w w' := by
  go_enter Try.func5, Try.ntmps5
  go_wp2_with fail
  refine (szRangeS_any _ _ _ _ _ (by omega) (by omega) hm00).mono ?_
  rintro e u1 ⟨r0, rfl, q0, s0, hb1⟩
  replace hr00 := hr00.below hb1
  by_cases hneg0 : r0 < 0
  · go_wp2
    go_ret
    exact ⟨rfl, by (repeat' (first | (with_reducible exact Below.refl _ _) | (with_reducible refine bel_alloc ?_ ?_ _) | (with_reducible refine Below.setCell ?_ ?_ _) | (with_reducible refine below_drewN ?_ _) | (with_reducible refine Below.drew ?_) | (with_reducible refine bel_step hb1 ?_ ?_) | (with_reducible exact Nat.le_refl _) | (with_reducible assumption) | omega | (simp only [World.size_alloc, World.size_setCell, World.size_drew]; omega) | (simp; omega) | (simp; done)))⟩
  have hn00 : x0.length ≤ 1048576 := by have := s0 (by omega); omega
  clear s0 q0
  go_wp2_with fail
  refine (toRangeS_any _ _ _ _ hr00 hn00).mono ?_
  rintro e u2 ⟨A0w, c0w, rfl, ow00, hb2⟩
  replace hr00 := hr00.below hb2
  go_wp2_with fail
  refine (rangeHas_s _ _ _ _ _ ow00.rd hn00).mono ?_
  rintro e u3 ⟨rfl, hb3⟩
  replace hr00 := hr00.below hb3
  replace ow00 := ow00.below hb3
  go_wp2_with fail
  refine (toRangeS_any _ _ _ _ hr00 hn00).mono ?_
  rintro e u4 ⟨A0x, c0x, rfl, ox00, hb4⟩
  replace hr00 := hr00.below hb4
  go_wp2_with fail
  refine (rangeHas_i _ _ _ _ _ ox00.rd hn00).mono ?_
  rintro e u5 ⟨rfl, hb5⟩
  replace hr00 := hr00.below hb5
  replace ox00 := ox00.below hb5
  go_wp2_with fail
  go_wp2_with fail
  refine (toRangeS_any _ _ _ _ hr00 hn00).mono ?_
  rintro e u6 ⟨A0y0, c0y0, rfl, oy000, hb6⟩
  replace hr00 := hr00.below hb6
  replace ox00 := ox00.below hb6
  go_wp2_with fail
  refine (eqRangeS_same _ _ _ _ _ _ ox00.rd oy000.rd hn00).mono ?_
  rintro e u7 ⟨rfl, hb7⟩
  replace hr00 := hr00.below hb7
  replace ox00 := ox00.below hb7
  replace oy000 := oy000.below hb7
  all_goals
    go_wp2
    go_ret
    exact ⟨rfl, by (repeat' (first | (with_reducible exact Below.refl _ _) | (with_reducible refine bel_alloc ?_ ?_ _) | (with_reducible refine Below.setCell ?_ ?_ _) | (with_reducible refine below_drewN ?_ _) | (with_reducible refine Below.drew ?_) | (with_reducible refine bel_step hb1 ?_ ?_) | (with_reducible refine bel_step hb2 ?_ ?_) | (with_reducible refine bel_step hb3 ?_ ?_) | (with_reducible refine bel_step hb4 ?_ ?_) | (with_reducible refine bel_step hb5 ?_ ?_) | (with_reducible refine bel_step hb6 ?_ ?_) | (with_reducible refine bel_step hb7 ?_ ?_) | (with_reducible exact Nat.le_refl _) | (with_reducible assumption) | omega | (simp only [World.size_alloc, World.size_setCell, World.size_drew]; omega) | (simp; omega) | (simp; done)))⟩
end Go.Proofs.Ytfdpplamebmdhaa
