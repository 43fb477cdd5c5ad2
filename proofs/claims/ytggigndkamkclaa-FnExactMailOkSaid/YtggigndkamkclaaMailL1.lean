/- The walk of the exact law on MailOk. -/
import Derived.Test.YtggigndkamkclaaMailB
import Derived.Deep.RegionHeld3
import Derived.Deep.DrawnRows
namespace Go.Proofs.Ytggigndkamkclaa
open Go.ChangeShapes Go.WideShapes Go.ChangeAt Go.RowKit
set_option linter.unusedVariables false
attribute [local go_sem ↓] Go.wp_at_zero Go.wp_at_succ

set_option maxHeartbeats 16000000 in
set_option maxRecDepth 100000 in
theorem law_mailOk (A0 : Option Addr) (c0 : Nat) (B0 : Option Addr) (d0 : Nat) (x0 : List (List Po)) (y0 : List (List Int)) (w : World) (hr00 : Rd2 pv w w.heap.size A0 x0) (hr01 : Rd2 iv w w.heap.size B0 y0) (hm00 : x0.length ≤ maxLen ∧ ∀ l ∈ x0, l.length ≤ maxLen) (hm01 : y0.length ≤ maxLen ∧ ∀ l ∈ y0, l.length ≤ maxLen) : Calls Try.prog 5 #[.agg #[.slice A0 x0.length c0, .slice B0 y0.length d0]] w fun e w' => e = .returned (.bool true) ∧ Below w.heap.size w w' := by
  go_enter Try.func5, Try.ntmps5
  go_wp2_with fail
  refine (szMail_any _ _ _ _ _ _ _ _ (hr00.alloc _) (hr01.alloc _) (by omega) (by omega) hm00 hm01).mono ?_
  rintro e u1 ⟨rz0, rfl, qz0, sz0, hb1⟩
  replace hr00 := (hr00.alloc _).below hb1
  replace hr01 := (hr01.alloc _).below hb1
  have a00 : u1.cell? ⟨w.heap.size, 0, none⟩ = some (.slice A0 x0.length c0) := keep hb1 (by simp [go_sem])
  have a01 : u1.cell? ⟨w.heap.size, 1, none⟩ = some (.slice B0 y0.length d0) := keep hb1 (by simp [go_sem])
  have hz1 := hb1.size
  try simp only [World.size_alloc, World.size_drew] at hz1
  have la00 := lt_of_cell' a00
  by_cases hneg0 : rz0 < 0
  · go_wp2
    go_ret
    exact ⟨rfl, by (repeat' (first | (with_reducible exact Below.refl _ _) | (with_reducible refine bel_alloc ?_ ?_ _) | (with_reducible refine Below.setCell ?_ ?_ _) | (with_reducible refine below_drewN ?_ _) | (with_reducible refine Below.drew ?_) | (with_reducible refine bel_step hb1 ?_ ?_) | (with_reducible exact Nat.le_refl _) | (with_reducible assumption) | omega | (simp only [World.size_alloc, World.size_setCell, World.size_drew]; omega) | (simp; omega) | (simp; done)))⟩
  have hn00 : Rows x0 ∧ Rows y0 := by have := sz0 (by omega); first | exact this | omega | exact ⟨by omega, this.2⟩
  clear sz0 qz0
  go_wp2_with fail
  refine (toMail_w _ _ _ _ _ _ _ hr00 hr01 hn00).mono ?_
  rintro e u2 ⟨A0w, c0w, B0w, d0w, Sw00, Sw01, rfl, kw00, kw01, ow00, ow01, hSw00, hSw01, dw00, hb2⟩
  clear la00
  replace hr00 := hr00.below hb2
  replace hr01 := hr01.below hb2
  replace a00 := keep hb2 a00
  replace a01 := keep hb2 a01
  have hz2 := hb2.size
  try simp only [World.size_alloc, World.size_drew] at hz2
  replace hSw00 : ∀ b, Sw00 b → u1.heap.size + 0 ≤ b ∧ b < u2.heap.size := fun b hb => by have := hSw00 b hb; (try simp only [World.size_alloc, World.size_drew] at this); omega
  replace hSw01 : ∀ b, Sw01 b → u1.heap.size + 0 ≤ b ∧ b < u2.heap.size := fun b hb => by have := hSw01 b hb; (try simp only [World.size_alloc, World.size_drew] at this); omega
  have la00 := lt_of_cell' a00
  go_wp2_with fail
  refine (mailOk_s _ _ _ _ _ _ _ ow00.rd ow01.rd hn00 _ rfl).mono ?_
  rintro e u3 ⟨rfl, hb3⟩
  clear la00
  replace hr00 := hr00.below hb3
  replace hr01 := hr01.below hb3
  replace a00 := keep hb3 a00
  replace a01 := keep hb3 a01
  replace ow00 := ow00.below hb3
  replace ow01 := ow01.below hb3
  have hz3 := hb3.size
  try simp only [World.size_alloc, World.size_drew] at hz3
  have la00 := lt_of_cell' a00
  go_wp2_with fail
  refine (toMail_w _ _ _ _ _ _ _ hr00 hr01 hn00).mono ?_
  rintro e u4 ⟨A0x, c0x, B0x, d0x, Sx00, Sx01, rfl, kx00, kx01, ox00, ox01, hSx00, hSx01, dx00, hb4⟩
  clear la00
  replace hr00 := hr00.below hb4
  replace hr01 := hr01.below hb4
  replace a00 := keep hb4 a00
  replace a01 := keep hb4 a01
  have hz4 := hb4.size
  try simp only [World.size_alloc, World.size_drew] at hz4
  replace hSx00 : ∀ b, Sx00 b → u3.heap.size + 0 ≤ b ∧ b < u4.heap.size := fun b hb => by have := hSx00 b hb; (try simp only [World.size_alloc, World.size_drew] at this); omega
  replace hSx01 : ∀ b, Sx01 b → u3.heap.size + 0 ≤ b ∧ b < u4.heap.size := fun b hb => by have := hSx01 b hb; (try simp only [World.size_alloc, World.size_drew] at this); omega
  have la00 := lt_of_cell' a00
  go_wp2_with fail
  refine (mailOk_i _ _ _ _ _ _ _ (ox00.alloc _).rd (ox01.alloc _).rd hn00 _ rfl).mono ?_
  rintro e u5 ⟨rfl, hb5⟩
  clear la00
  replace hr00 := (hr00.alloc _).below hb5
  replace hr01 := (hr01.alloc _).below hb5
  replace a00 := keep hb5 (cell_al a00 _)
  replace a01 := keep hb5 (cell_al a01 _)
  replace ox00 := (ox00.alloc _).below hb5
  replace ox01 := (ox01.alloc _).below hb5
  have x00 : u5.cell? ⟨u4.heap.size, 0, none⟩ = some (.slice A0x x0.length c0x) := keep hb5 (by simp [go_sem])
  have x01 : u5.cell? ⟨u4.heap.size, 1, none⟩ = some (.slice B0x y0.length d0x) := keep hb5 (by simp [go_sem])
  have hz5 := hb5.size
  try simp only [World.size_alloc, World.size_drew] at hz5
  have la00 := lt_of_cell' a00
  have lx00 := lt_of_cell' x00
  go_wp2_with fail
  clear la00 lx00
  replace hr00 := hr00.drew
  replace hr01 := hr01.drew
  replace a00 := (show World.cell? (World.drew _) _ = _ from a00)
  replace a01 := (show World.cell? (World.drew _) _ = _ from a01)
  replace ox00 := ox00.drew
  replace ox01 := ox01.drew
  replace x00 := (show World.cell? (World.drew _) _ = _ from x00)
  replace x01 := (show World.cell? (World.drew _) _ = _ from x01)
  go_region_held3 (fun w' => w'.cell? ⟨w.heap.size, 0, none⟩ = some (.slice A0 x0.length c0) ∧ w'.cell? ⟨w.heap.size, 1, none⟩ = some (.slice B0 y0.length d0) ∧ w'.cell? ⟨u4.heap.size, 0, none⟩ = some (.slice A0x x0.length c0x) ∧ w'.cell? ⟨u4.heap.size, 1, none⟩ = some (.slice B0x y0.length d0x)) (first | go_keep | exact ⟨(keep hb6 a00), (keep hb6 a01), (keep hb6 x00), (keep hb6 x01)⟩ | exact ⟨(keep hb7 (keep hb6 a00)), (keep hb7 (keep hb6 a01)), (keep hb7 (keep hb6 x00)), (keep hb7 (keep hb6 x01))⟩)
    (first | (go_at_call 23; refine (toMail_w _ _ _ _ _ _ _ hr00 hr01 hn00).mono ?_; rintro e u6 ⟨A0y0, c0y0, B0y0, d0y0, Sy000, Sy001, rfl, ky000, ky001, oy000, oy001, hSy000, hSy001, dy000, hb6⟩) | (go_at_call 18; refine (eqMail_same _ _ _ _ _ _ _ _ _ _ _ (ox00.below hb6).rd oy000.rd (ox01.below hb6).rd oy001.rd hn00).mono ?_; rintro e u7 ⟨rfl, hb7⟩))
  replace hr00 := ((hr00.below hb6).below hb7)
  replace hr01 := ((hr01.below hb6).below hb7)
  replace a00 := (keep hb7 (keep hb6 a00))
  replace a01 := (keep hb7 (keep hb6 a01))
  replace ox00 := ((ox00.below hb6).below hb7)
  replace ox01 := ((ox01.below hb6).below hb7)
  replace x00 := (keep hb7 (keep hb6 x00))
  replace x01 := (keep hb7 (keep hb6 x01))
  have hz6 := hb6.size
  try simp only [World.size_alloc, World.size_drew] at hz6
  replace hSy000 : ∀ b, Sy000 b → u5.heap.size + 0 ≤ b ∧ b < u6.heap.size := fun b hb => by have := hSy000 b hb; (try simp only [World.size_alloc, World.size_drew] at this); omega
  replace hSy001 : ∀ b, Sy001 b → u5.heap.size + 0 ≤ b ∧ b < u6.heap.size := fun b hb => by have := hSy001 b hb; (try simp only [World.size_alloc, World.size_drew] at this); omega
  have hz7 := hb7.size
  try simp only [World.size_alloc, World.size_drew] at hz7
  have la00 := lt_of_cell' a00
  have lx00 := lt_of_cell' x00
  all_goals
    go_wp2
    go_ret
    exact ⟨rfl, by (repeat' (first | (with_reducible exact Below.refl _ _) | (with_reducible refine bel_alloc ?_ ?_ _) | (with_reducible refine Below.setCell ?_ ?_ _) | (with_reducible refine below_drewN ?_ _) | (with_reducible refine Below.drew ?_) | (with_reducible refine bel_step hb1 ?_ ?_) | (with_reducible refine bel_step hb2 ?_ ?_) | (with_reducible refine bel_step hb3 ?_ ?_) | (with_reducible refine bel_step hb4 ?_ ?_) | (with_reducible refine bel_step hb5 ?_ ?_) | (with_reducible refine bel_step hb6 ?_ ?_) | (with_reducible refine bel_step hb7 ?_ ?_) | (with_reducible exact Nat.le_refl _) | (with_reducible assumption) | omega | (simp only [World.size_alloc, World.size_setCell, World.size_drew]; omega) | (simp; omega) | (simp; done)))⟩
end Go.Proofs.Ytggigndkamkclaa
