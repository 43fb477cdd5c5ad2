/- The walks of the exact laws on Tags that hand back no memory. -/
import Derived.Test.YtlohnaodoniajaaTagsF
import Derived.Deep.RegionHeld3
import Derived.Deep.DrawnRows
namespace Go.Proofs.Ytlohnaodoniajaa
open Go.ChangeShapes Go.WideShapes Go.ChangeAt Go.RowKit
set_option linter.unusedVariables false
attribute [local go_sem ↓] Go.wp_at_zero Go.wp_at_succ

set_option maxHeartbeats 8000000 in
theorem law_tagsOk (A0 : Option Addr) (c0 : Nat) (x0 : List Int) (w : World) (hr00 : Rd w w.heap.size A0 (iv x0)) (hm00 : x0.length ≤ maxLen) : Calls Try.prog 4 #[.agg #[.slice A0 x0.length c0]] w fun e w' => e = .returned (.bool true) ∧ Below w.heap.size w w' := by
  go_enter Try.func4, Try.ntmps4
  go_wp2_with fail
  refine (szTags_any _ _ _ _ _ (by omega) (by omega) hm00).mono ?_
  rintro e u1 ⟨r0, rfl, q0, s0, hb1⟩
  replace hr00 := (hr00.alloc _).below hb1
  have a00 : u1.cell? ⟨w.heap.size, 0, none⟩ = some (.slice A0 x0.length c0) := keep hb1 (by simp [go_sem])
  by_cases hneg0 : r0 < 0
  · go_wp2
    go_ret
    exact ⟨rfl, by (repeat' (first | (with_reducible exact Below.refl _ _) | (with_reducible refine bel_alloc ?_ ?_ _) | (with_reducible refine Below.setCell ?_ ?_ _) | (with_reducible refine below_drewN ?_ _) | (with_reducible refine Below.drew ?_) | (with_reducible refine bel_step hb1 ?_ ?_) | (with_reducible exact Nat.le_refl _) | (with_reducible assumption) | omega | (simp only [World.size_alloc, World.size_setCell, World.size_drew]; omega) | (simp; omega) | (simp; done)))⟩
  have hn00 : x0.length ≤ 1048576 := by have := s0 (by omega); omega
  clear s0 q0
  go_wp2_with fail
  refine (toTags_any _ _ _ _ hr00 hn00).mono ?_
  rintro e u2 ⟨A0w, c0w, rfl, ow00, hb2⟩
  replace hr00 := hr00.below hb2
  replace a00 := keep hb2 a00
  go_wp2_with fail
  refine (tagsOk_s _ _ _ _ ow00.rd hn00).mono ?_
  rintro e u3 ⟨rfl, hb3⟩
  replace hr00 := hr00.below hb3
  replace a00 := keep hb3 a00
  replace ow00 := ow00.below hb3
  go_wp2_with fail
  refine (toTags_any _ _ _ _ hr00 hn00).mono ?_
  rintro e u4 ⟨A0x, c0x, rfl, ox00, hb4⟩
  replace hr00 := hr00.below hb4
  replace a00 := keep hb4 a00
  go_wp2_with fail
  refine (tagsOk_i _ _ _ _ (ox00.alloc _).rd hn00).mono ?_
  rintro e u5 ⟨rfl, hb5⟩
  replace hr00 := (hr00.alloc _).below hb5
  replace a00 := keep hb5 (cell_al a00 _)
  replace ox00 := (ox00.alloc _).below hb5
  have x00 : u5.cell? ⟨u4.heap.size, 0, none⟩ = some (.slice A0x x0.length c0x) := keep hb5 (by simp [go_sem])
  go_wp2_with fail
  replace hr00 := (show Rd (World.drew _) _ _ _ from hr00)
  replace a00 := (show World.cell? (World.drew _) _ = _ from a00)
  replace ox00 := (show Ow (World.drew _) _ _ _ _ _ _ _ _ from ox00)
  replace x00 := (show World.cell? (World.drew _) _ = _ from x00)
  go_region_held3 (fun w' => w'.cell? ⟨w.heap.size, 0, none⟩ = some (.slice A0 x0.length c0) ∧ w'.cell? ⟨u4.heap.size, 0, none⟩ = some (.slice A0x x0.length c0x)) (first | go_keep | exact ⟨keep hb6 a00, keep hb6 x00⟩ | exact ⟨keep hb7 (keep hb6 a00), keep hb7 (keep hb6 x00)⟩)
    (first | (go_at_call 16; refine (toTags_any _ _ _ _ hr00 hn00).mono ?_; rintro e u6 ⟨A0y0, c0y0, rfl, oy000, hb6⟩) | (go_at_call 11; refine (eqTags_same _ _ _ _ _ _ (ox00.below hb6).rd oy000.rd hn00).mono ?_; rintro e u7 ⟨rfl, hb7⟩))
  replace hr00 := (hr00.below hb6).below hb7
  replace a00 := keep hb7 (keep hb6 a00)
  replace ox00 := (ox00.below hb6).below hb7
  replace x00 := keep hb7 (keep hb6 x00)
  all_goals
    go_wp2
    go_ret
    exact ⟨rfl, by (repeat' (first | (with_reducible exact Below.refl _ _) | (with_reducible refine bel_alloc ?_ ?_ _) | (with_reducible refine Below.setCell ?_ ?_ _) | (with_reducible refine below_drewN ?_ _) | (with_reducible refine Below.drew ?_) | (with_reducible refine bel_step hb1 ?_ ?_) | (with_reducible refine bel_step hb2 ?_ ?_) | (with_reducible refine bel_step hb3 ?_ ?_) | (with_reducible refine bel_step hb4 ?_ ?_) | (with_reducible refine bel_step hb5 ?_ ?_) | (with_reducible refine bel_step hb6 ?_ ?_) | (with_reducible refine bel_step hb7 ?_ ?_) | (with_reducible exact Nat.le_refl _) | (with_reducible assumption) | omega | (simp only [World.size_alloc, World.size_setCell, World.size_drew]; omega) | (simp; omega) | (simp; done)))⟩

set_option maxHeartbeats 8000000 in
theorem law_pointerTo (A0 : Option Addr) (c0 : Nat) (x0 : List Int) (p : Int) (w : World) (hr00 : Rd w w.heap.size A0 (iv x0)) (hm00 : x0.length ≤ maxLen) : Calls Try.prog 5 #[.agg #[.slice A0 x0.length c0], .int .i64 p] w fun e w' => e = .returned (.bool true) ∧ Below w.heap.size w w' := by
  go_enter Try.func5, Try.ntmps5
  go_wp2_with fail
  refine (szTags_any _ _ _ _ _ (by omega) (by omega) hm00).mono ?_
  rintro e u1 ⟨r0, rfl, q0, s0, hb1⟩
  replace hr00 := (hr00.alloc _).below hb1
  have a00 : u1.cell? ⟨w.heap.size, 0, none⟩ = some (.slice A0 x0.length c0) := keep hb1 (by simp [go_sem])
  by_cases hneg0 : r0 < 0
  · go_wp2
    go_ret
    exact ⟨rfl, by (repeat' (first | (with_reducible exact Below.refl _ _) | (with_reducible refine bel_alloc ?_ ?_ _) | (with_reducible refine Below.setCell ?_ ?_ _) | (with_reducible refine below_drewN ?_ _) | (with_reducible refine Below.drew ?_) | (with_reducible refine bel_step hb1 ?_ ?_) | (with_reducible exact Nat.le_refl _) | (with_reducible assumption) | omega | (simp only [World.size_alloc, World.size_setCell, World.size_drew]; omega) | (simp; omega) | (simp; done)))⟩
  have hn00 : x0.length ≤ 1048576 := by have := s0 (by omega); omega
  clear s0 q0
  go_wp2_with fail
  refine (toTags_any _ _ _ _ hr00 hn00).mono ?_
  rintro e u2 ⟨A0w, c0w, rfl, ow00, hb2⟩
  replace hr00 := hr00.below hb2
  replace a00 := keep hb2 a00
  go_wp2_with fail
  refine (pointerTo_s _ _ _ _ _ ow00.rd hn00).mono ?_
  rintro e u3 ⟨rfl, hb3⟩
  replace hr00 := hr00.below hb3
  replace a00 := keep hb3 a00
  replace ow00 := ow00.below hb3
  go_wp2_with fail
  refine (toTags_any _ _ _ _ hr00 hn00).mono ?_
  rintro e u4 ⟨A0x, c0x, rfl, ox00, hb4⟩
  replace hr00 := hr00.below hb4
  replace a00 := keep hb4 a00
  go_wp2_with fail
  refine (pointerTo_i _ _ _ _ _ (ox00.alloc _).rd hn00).mono ?_
  rintro e u5 ⟨rfl, hb5⟩
  replace hr00 := (hr00.alloc _).below hb5
  replace a00 := keep hb5 (cell_al a00 _)
  replace ox00 := (ox00.alloc _).below hb5
  have x00 : u5.cell? ⟨u4.heap.size, 0, none⟩ = some (.slice A0x x0.length c0x) := keep hb5 (by simp [go_sem])
  go_wp2_with fail
  replace hr00 := (show Rd (World.drew _) _ _ _ from hr00)
  replace a00 := (show World.cell? (World.drew _) _ = _ from a00)
  replace ox00 := (show Ow (World.drew _) _ _ _ _ _ _ _ _ from ox00)
  replace x00 := (show World.cell? (World.drew _) _ = _ from x00)
  go_region_held3 (fun w' => w'.cell? ⟨w.heap.size, 0, none⟩ = some (.slice A0 x0.length c0) ∧ w'.cell? ⟨u4.heap.size, 0, none⟩ = some (.slice A0x x0.length c0x)) (first | go_keep | exact ⟨keep hb6 a00, keep hb6 x00⟩ | exact ⟨keep hb7 (keep hb6 a00), keep hb7 (keep hb6 x00)⟩)
    (first | (go_at_call 16; refine (toTags_any _ _ _ _ hr00 hn00).mono ?_; rintro e u6 ⟨A0y0, c0y0, rfl, oy000, hb6⟩) | (go_at_call 11; refine (eqTags_same _ _ _ _ _ _ (ox00.below hb6).rd oy000.rd hn00).mono ?_; rintro e u7 ⟨rfl, hb7⟩))
  replace hr00 := (hr00.below hb6).below hb7
  replace a00 := keep hb7 (keep hb6 a00)
  replace ox00 := (ox00.below hb6).below hb7
  replace x00 := keep hb7 (keep hb6 x00)
  all_goals
    go_wp2
    go_ret
    exact ⟨rfl, by (repeat' (first | (with_reducible exact Below.refl _ _) | (with_reducible refine bel_alloc ?_ ?_ _) | (with_reducible refine Below.setCell ?_ ?_ _) | (with_reducible refine below_drewN ?_ _) | (with_reducible refine Below.drew ?_) | (with_reducible refine bel_step hb1 ?_ ?_) | (with_reducible refine bel_step hb2 ?_ ?_) | (with_reducible refine bel_step hb3 ?_ ?_) | (with_reducible refine bel_step hb4 ?_ ?_) | (with_reducible refine bel_step hb5 ?_ ?_) | (with_reducible refine bel_step hb6 ?_ ?_) | (with_reducible refine bel_step hb7 ?_ ?_) | (with_reducible exact Nat.le_refl _) | (with_reducible assumption) | omega | (simp only [World.size_alloc, World.size_setCell, World.size_drew]; omega) | (simp; omega) | (simp; done)))⟩

set_option maxHeartbeats 8000000 in
theorem law_tagFits (A0 : Option Addr) (c0 : Nat) (x0 : List Int) (p : Int) (w : World) (hr00 : Rd w w.heap.size A0 (iv x0)) (hm00 : x0.length ≤ maxLen) : Calls Try.prog 7 #[.agg #[.slice A0 x0.length c0], .int .i64 p] w fun e w' => e = .returned (.bool true) ∧ Below w.heap.size w w' := by
  go_enter Try.func7, Try.ntmps7
  go_wp2_with fail
  refine (szTags_any _ _ _ _ _ (by omega) (by omega) hm00).mono ?_
  rintro e u1 ⟨r0, rfl, q0, s0, hb1⟩
  replace hr00 := (hr00.alloc _).below hb1
  have a00 : u1.cell? ⟨w.heap.size, 0, none⟩ = some (.slice A0 x0.length c0) := keep hb1 (by simp [go_sem])
  by_cases hneg0 : r0 < 0
  · go_wp2
    go_ret
    exact ⟨rfl, by (repeat' (first | (with_reducible exact Below.refl _ _) | (with_reducible refine bel_alloc ?_ ?_ _) | (with_reducible refine Below.setCell ?_ ?_ _) | (with_reducible refine below_drewN ?_ _) | (with_reducible refine Below.drew ?_) | (with_reducible refine bel_step hb1 ?_ ?_) | (with_reducible exact Nat.le_refl _) | (with_reducible assumption) | omega | (simp only [World.size_alloc, World.size_setCell, World.size_drew]; omega) | (simp; omega) | (simp; done)))⟩
  have hn00 : x0.length ≤ 1048576 := by have := s0 (by omega); omega
  clear s0 q0
  go_wp2_with fail
  refine (toTags_any _ _ _ _ hr00 hn00).mono ?_
  rintro e u2 ⟨A0w, c0w, rfl, ow00, hb2⟩
  replace hr00 := hr00.below hb2
  replace a00 := keep hb2 a00
  go_wp2_with fail
  refine (tagFits_s _ _ _ _ _ ow00.rd hn00).mono ?_
  rintro e u3 ⟨rfl, hb3⟩
  replace hr00 := hr00.below hb3
  replace a00 := keep hb3 a00
  replace ow00 := ow00.below hb3
  go_wp2_with fail
  refine (toTags_any _ _ _ _ hr00 hn00).mono ?_
  rintro e u4 ⟨A0x, c0x, rfl, ox00, hb4⟩
  replace hr00 := hr00.below hb4
  replace a00 := keep hb4 a00
  go_wp2_with fail
  refine (tagFits_i _ _ _ _ _ (ox00.alloc _).rd hn00).mono ?_
  rintro e u5 ⟨rfl, hb5⟩
  replace hr00 := (hr00.alloc _).below hb5
  replace a00 := keep hb5 (cell_al a00 _)
  replace ox00 := (ox00.alloc _).below hb5
  have x00 : u5.cell? ⟨u4.heap.size, 0, none⟩ = some (.slice A0x x0.length c0x) := keep hb5 (by simp [go_sem])
  go_wp2_with fail
  replace hr00 := (show Rd (World.drew _) _ _ _ from hr00)
  replace a00 := (show World.cell? (World.drew _) _ = _ from a00)
  replace ox00 := (show Ow (World.drew _) _ _ _ _ _ _ _ _ from ox00)
  replace x00 := (show World.cell? (World.drew _) _ = _ from x00)
  go_region_held3 (fun w' => w'.cell? ⟨w.heap.size, 0, none⟩ = some (.slice A0 x0.length c0) ∧ w'.cell? ⟨u4.heap.size, 0, none⟩ = some (.slice A0x x0.length c0x)) (first | go_keep | exact ⟨keep hb6 a00, keep hb6 x00⟩ | exact ⟨keep hb7 (keep hb6 a00), keep hb7 (keep hb6 x00)⟩)
    (first | (go_at_call 16; refine (toTags_any _ _ _ _ hr00 hn00).mono ?_; rintro e u6 ⟨A0y0, c0y0, rfl, oy000, hb6⟩) | (go_at_call 11; refine (eqTags_same _ _ _ _ _ _ (ox00.below hb6).rd oy000.rd hn00).mono ?_; rintro e u7 ⟨rfl, hb7⟩))
  replace hr00 := (hr00.below hb6).below hb7
  replace a00 := keep hb7 (keep hb6 a00)
  replace ox00 := (ox00.below hb6).below hb7
  replace x00 := keep hb7 (keep hb6 x00)
  all_goals
    go_wp2
    go_ret
    exact ⟨rfl, by (repeat' (first | (with_reducible exact Below.refl _ _) | (with_reducible refine bel_alloc ?_ ?_ _) | (with_reducible refine Below.setCell ?_ ?_ _) | (with_reducible refine below_drewN ?_ _) | (with_reducible refine Below.drew ?_) | (with_reducible refine bel_step hb1 ?_ ?_) | (with_reducible refine bel_step hb2 ?_ ?_) | (with_reducible refine bel_step hb3 ?_ ?_) | (with_reducible refine bel_step hb4 ?_ ?_) | (with_reducible refine bel_step hb5 ?_ ?_) | (with_reducible refine bel_step hb6 ?_ ?_) | (with_reducible refine bel_step hb7 ?_ ?_) | (with_reducible exact Nat.le_refl _) | (with_reducible assumption) | omega | (simp only [World.size_alloc, World.size_setCell, World.size_drew]; omega) | (simp; omega) | (simp; done)))⟩
end Go.Proofs.Ytlohnaodoniajaa
