/- The walk of the exact law on FirstBroken. -/
import Derived.Test.YtljholnnhogdkaaGuardC
import Derived.Test.YtljholnnhogdkaaMacT
import Derived.Deep.RegionHeld3
import Derived.Deep.DrawnRows
import Derived.Deep.DeepCutAuto
namespace Go.Proofs.Ytljholnnhogdkaa
open Go.ChangeShapes Go.WideShapes Go.ChangeAt Go.RowKit
set_option linter.unusedVariables false
attribute [local go_sem ↓] Go.wp_at_zero Go.wp_at_succ

set_option maxHeartbeats 16000000 in
set_option maxRecDepth 100000 in
theorem law_firstBroken (A0 : Option Addr) (c0 : Nat) (B0 : Option Addr) (d0 : Nat) (AE0 : Option Addr) (f0 : Nat) (x0 : List (List Int)) (u0 : List Bool) (t0 : List En) (p1 : Int) (p2 : Int) (w : World) (hr00 : Rd2 iv w w.heap.size A0 x0) (hr01 : Rd w w.heap.size B0 (bl u0)) (hr02 : Rd w w.heap.size AE0 (pv t0)) (hm00 : x0.length ≤ maxLen ∧ ∀ l ∈ x0, l.length ≤ maxLen) (hm01 : u0.length ≤ maxLen) (hm02 : t0.length ≤ maxLen) (hp1 : -9223372036854775808 ≤ p1 ∧ p1 ≤ 9223372036854775807) (hp2 : -9223372036854775808 ≤ p2 ∧ p2 ≤ 9223372036854775807) : Calls Try.prog 7 #[.agg #[.slice A0 x0.length c0, .slice B0 u0.length d0, .slice AE0 t0.length f0], .int .i64 p1, .int .i64 p2] w fun e w' => e = .returned (.bool true) ∧ Below w.heap.size w w' := by
  go_enter Try.func7, Try.ntmps7
  go_wp2_with fail
  refine (szMachine_any _ _ _ _ _ _ _ _ _ _ _ (hr00.alloc _) (hr01.alloc _) (hr02.alloc _) (by omega) (by omega) hm00 hm01 hm02).mono ?_
  rintro e m1 ⟨rz0, rfl, qz0, sz0, hb1⟩
  replace hr00 := (hr00.alloc _).below hb1
  replace hr01 := (hr01.alloc _).below hb1
  replace hr02 := (hr02.alloc _).below hb1
  have a00 : m1.cell? ⟨w.heap.size, 0, none⟩ = some (.slice A0 x0.length c0) := keep hb1 (by simp [go_sem])
  have a01 : m1.cell? ⟨w.heap.size, 1, none⟩ = some (.slice B0 u0.length d0) := keep hb1 (by simp [go_sem])
  have a02 : m1.cell? ⟨w.heap.size, 2, none⟩ = some (.slice AE0 t0.length f0) := keep hb1 (by simp [go_sem])
  have hz1 := hb1.size
  try simp only [World.size_alloc, World.size_drew] at hz1
  have la00 := lt_of_cell' a00
  by_cases hneg0 : rz0 < 0
  · go_wp2
    go_ret
    exact ⟨rfl, by (repeat' (first | (with_reducible exact Below.refl _ _) | (with_reducible refine bel_alloc ?_ ?_ _) | (with_reducible refine Below.setCell ?_ ?_ _) | (with_reducible refine below_drewN ?_ _) | (with_reducible refine Below.drew ?_) | (with_reducible refine bel_step hb1 ?_ ?_) | (with_reducible exact Nat.le_refl _) | (with_reducible assumption) | omega | (simp only [World.size_alloc, World.size_setCell, World.size_drew]; omega) | (simp; omega) | (simp; done)))⟩
  have hn00 : MRows x0 u0 t0 := by have := sz0 (by omega); first | exact this | omega | exact ⟨by omega, this.2⟩
  clear sz0 qz0
  go_wp2_with fail
  refine (toMachine_w _ _ _ _ _ _ _ _ _ _ hr00 hr01 hr02 hn00).mono ?_
  rintro e m2 ⟨A0w, c0w, B0w, d0w, AE0w, f0w, Sw00, Sw01, Sw02, rfl, kw00, kw01, kw02, ow00, ow01, ow02, hSw00, hSw01, hSw02, dw00, dw01, dw02, hb2⟩
  clear la00
  replace hr00 := hr00.below hb2
  replace hr01 := hr01.below hb2
  replace hr02 := hr02.below hb2
  replace a00 := keep hb2 a00
  replace a01 := keep hb2 a01
  replace a02 := keep hb2 a02
  have hz2 := hb2.size
  try simp only [World.size_alloc, World.size_drew] at hz2
  replace hSw00 : ∀ b, Sw00 b → m1.heap.size + 0 ≤ b ∧ b < m2.heap.size := fun b hb => by have := hSw00 b hb; (try simp only [World.size_alloc, World.size_drew] at this); omega
  replace hSw01 : ∀ b, Sw01 b → m1.heap.size + 0 ≤ b ∧ b < m2.heap.size := fun b hb => by have := hSw01 b hb; (try simp only [World.size_alloc, World.size_drew] at this); omega
  replace hSw02 : ∀ b, Sw02 b → m1.heap.size + 0 ≤ b ∧ b < m2.heap.size := fun b hb => by have := hSw02 b hb; (try simp only [World.size_alloc, World.size_drew] at this); omega
  have la00 := lt_of_cell' a00
  go_wp2_with fail
  refine (firstBroken_s _ _ _ _ _ _ _ _ _ _ _ _ ow00.rd ow01.rd ow02.rd hn00).mono ?_
  rintro e m3 ⟨rfl, hb3⟩
  clear la00
  replace hr00 := hr00.below hb3
  replace hr01 := hr01.below hb3
  replace hr02 := hr02.below hb3
  replace a00 := keep hb3 a00
  replace a01 := keep hb3 a01
  replace a02 := keep hb3 a02
  replace ow00 := ow00.below hb3
  replace ow01 := ow01.below hb3
  replace ow02 := ow02.below hb3
  have hz3 := hb3.size
  try simp only [World.size_alloc, World.size_drew] at hz3
  have la00 := lt_of_cell' a00
  go_wp2_with fail
  refine (toMachine_w _ _ _ _ _ _ _ _ _ _ hr00 hr01 hr02 hn00).mono ?_
  rintro e m4 ⟨A0x, c0x, B0x, d0x, AE0x, f0x, Sx00, Sx01, Sx02, rfl, kx00, kx01, kx02, ox00, ox01, ox02, hSx00, hSx01, hSx02, dx00, dx01, dx02, hb4⟩
  clear la00
  replace hr00 := hr00.below hb4
  replace hr01 := hr01.below hb4
  replace hr02 := hr02.below hb4
  replace a00 := keep hb4 a00
  replace a01 := keep hb4 a01
  replace a02 := keep hb4 a02
  have hz4 := hb4.size
  try simp only [World.size_alloc, World.size_drew] at hz4
  replace hSx00 : ∀ b, Sx00 b → m3.heap.size + 0 ≤ b ∧ b < m4.heap.size := fun b hb => by have := hSx00 b hb; (try simp only [World.size_alloc, World.size_drew] at this); omega
  replace hSx01 : ∀ b, Sx01 b → m3.heap.size + 0 ≤ b ∧ b < m4.heap.size := fun b hb => by have := hSx01 b hb; (try simp only [World.size_alloc, World.size_drew] at this); omega
  replace hSx02 : ∀ b, Sx02 b → m3.heap.size + 0 ≤ b ∧ b < m4.heap.size := fun b hb => by have := hSx02 b hb; (try simp only [World.size_alloc, World.size_drew] at this); omega
  have la00 := lt_of_cell' a00
  go_wp2_with fail
  refine (firstBroken_i _ _ _ _ _ _ _ _ _ _ _ _ (ox00.alloc _).rd (ox01.alloc _).rd (ox02.alloc _).rd hn00).mono ?_
  rintro e m5 ⟨rfl, hb5⟩
  clear la00
  replace hr00 := (hr00.alloc _).below hb5
  replace hr01 := (hr01.alloc _).below hb5
  replace hr02 := (hr02.alloc _).below hb5
  replace a00 := keep hb5 (cell_al a00 _)
  replace a01 := keep hb5 (cell_al a01 _)
  replace a02 := keep hb5 (cell_al a02 _)
  replace ox00 := (ox00.alloc _).below hb5
  replace ox01 := (ox01.alloc _).below hb5
  replace ox02 := (ox02.alloc _).below hb5
  have x00 : m5.cell? ⟨m4.heap.size, 0, none⟩ = some (.slice A0x x0.length c0x) := keep hb5 (by simp [go_sem])
  have x01 : m5.cell? ⟨m4.heap.size, 1, none⟩ = some (.slice B0x u0.length d0x) := keep hb5 (by simp [go_sem])
  have x02 : m5.cell? ⟨m4.heap.size, 2, none⟩ = some (.slice AE0x t0.length f0x) := keep hb5 (by simp [go_sem])
  have hz5 := hb5.size
  try simp only [World.size_alloc, World.size_drew] at hz5
  have la00 := lt_of_cell' a00
  have lx00 := lt_of_cell' x00
  go_wp2_with fail
  clear la00 lx00
  replace hr00 := hr00.drew
  replace hr01 := hr01.drew
  replace hr02 := hr02.drew
  replace a00 := (show World.cell? (World.drew _) _ = _ from a00)
  replace a01 := (show World.cell? (World.drew _) _ = _ from a01)
  replace a02 := (show World.cell? (World.drew _) _ = _ from a02)
  replace ox00 := ox00.drew
  replace ox01 := ox01.drew
  replace ox02 := ox02.drew
  replace x00 := (show World.cell? (World.drew _) _ = _ from x00)
  replace x01 := (show World.cell? (World.drew _) _ = _ from x01)
  replace x02 := (show World.cell? (World.drew _) _ = _ from x02)
  go_region_held3 (fun w' => w'.cell? ⟨w.heap.size, 0, none⟩ = some (.slice A0 x0.length c0) ∧ w'.cell? ⟨w.heap.size, 1, none⟩ = some (.slice B0 u0.length d0) ∧ w'.cell? ⟨w.heap.size, 2, none⟩ = some (.slice AE0 t0.length f0) ∧ w'.cell? ⟨m4.heap.size, 0, none⟩ = some (.slice A0x x0.length c0x) ∧ w'.cell? ⟨m4.heap.size, 1, none⟩ = some (.slice B0x u0.length d0x) ∧ w'.cell? ⟨m4.heap.size, 2, none⟩ = some (.slice AE0x t0.length f0x)) (first | go_keep | exact ⟨(keep hb6 a00), (keep hb6 a01), (keep hb6 a02), (keep hb6 x00), (keep hb6 x01), (keep hb6 x02)⟩ | exact ⟨(keep hb7 (keep hb6 a00)), (keep hb7 (keep hb6 a01)), (keep hb7 (keep hb6 a02)), (keep hb7 (keep hb6 x00)), (keep hb7 (keep hb6 x01)), (keep hb7 (keep hb6 x02))⟩)
    (first | (go_at_call 20; refine (toMachine_w _ _ _ _ _ _ _ _ _ _ hr00 hr01 hr02 hn00).mono ?_; rintro e m6 ⟨A0y0, c0y0, B0y0, d0y0, AE0y0, f0y0, Sy000, Sy001, Sy002, rfl, ky000, ky001, ky002, oy000, oy001, oy002, hSy000, hSy001, hSy002, dy000, dy001, dy002, hb6⟩) | (go_at_call 22; refine (eqMachine_same _ _ _ _ _ _ _ _ _ _ _ _ _ _ _ _ (ox00.below hb6).rd oy000.rd (ox01.below hb6).rd oy001.rd (ox02.below hb6).rd oy002.rd hn00).mono ?_; rintro e m7 ⟨rfl, hb7⟩))
  replace hr00 := ((hr00.below hb6).below hb7)
  replace hr01 := ((hr01.below hb6).below hb7)
  replace hr02 := ((hr02.below hb6).below hb7)
  replace a00 := (keep hb7 (keep hb6 a00))
  replace a01 := (keep hb7 (keep hb6 a01))
  replace a02 := (keep hb7 (keep hb6 a02))
  replace ox00 := ((ox00.below hb6).below hb7)
  replace ox01 := ((ox01.below hb6).below hb7)
  replace ox02 := ((ox02.below hb6).below hb7)
  replace x00 := (keep hb7 (keep hb6 x00))
  replace x01 := (keep hb7 (keep hb6 x01))
  replace x02 := (keep hb7 (keep hb6 x02))
  have hz6 := hb6.size
  try simp only [World.size_alloc, World.size_drew] at hz6
  replace hSy000 : ∀ b, Sy000 b → m5.heap.size + 0 ≤ b ∧ b < m6.heap.size := fun b hb => by have := hSy000 b hb; (try simp only [World.size_alloc, World.size_drew] at this); omega
  replace hSy001 : ∀ b, Sy001 b → m5.heap.size + 0 ≤ b ∧ b < m6.heap.size := fun b hb => by have := hSy001 b hb; (try simp only [World.size_alloc, World.size_drew] at this); omega
  replace hSy002 : ∀ b, Sy002 b → m5.heap.size + 0 ≤ b ∧ b < m6.heap.size := fun b hb => by have := hSy002 b hb; (try simp only [World.size_alloc, World.size_drew] at this); omega
  have hz7 := hb7.size
  try simp only [World.size_alloc, World.size_drew] at hz7
  have la00 := lt_of_cell' a00
  have lx00 := lt_of_cell' x00
  all_goals
    go_wp2
    go_ret
    exact ⟨rfl, by (repeat' (first | (with_reducible exact Below.refl _ _) | (with_reducible refine bel_alloc ?_ ?_ _) | (with_reducible refine Below.setCell ?_ ?_ _) | (with_reducible refine below_drewN ?_ _) | (with_reducible refine Below.drew ?_) | (with_reducible refine bel_step hb1 ?_ ?_) | (with_reducible refine bel_step hb2 ?_ ?_) | (with_reducible refine bel_step hb3 ?_ ?_) | (with_reducible refine bel_step hb4 ?_ ?_) | (with_reducible refine bel_step hb5 ?_ ?_) | (with_reducible refine bel_step hb6 ?_ ?_) | (with_reducible refine bel_step hb7 ?_ ?_) | (with_reducible exact Nat.le_refl _) | (with_reducible assumption) | omega | (simp only [World.size_alloc, World.size_setCell, World.size_drew]; omega) | (simp; omega) | (simp; done)))⟩
end Go.Proofs.Ytljholnnhogdkaa
