/- The walk of the exact law on Retag. -/
import Derived.Test.YtlohnaodoniajaaTagsF
import Derived.Deep.RegionHeld3
import Derived.Deep.DrawnRows
namespace Go.Proofs.Ytlohnaodoniajaa
open Go.ChangeShapes Go.WideShapes Go.ChangeAt Go.RowKit
set_option linter.unusedVariables false
attribute [local go_sem ↓] Go.wp_at_zero Go.wp_at_succ

set_option maxHeartbeats 8000000 in
theorem law_retag (A0 : Option Addr) (c0 : Nat) (x0 : List Int) (a : Int) (w : World) (hr00 : Rd w w.heap.size A0 (iv x0)) (hm00 : x0.length ≤ maxLen) : Calls Try.prog 8 #[.agg #[.slice A0 x0.length c0], .int .i64 a] w fun e w' => e = .returned (.bool true) ∧ Below w.heap.size w w' := by
  obtain ⟨ys, ok, HS, HI, hy⟩ : ∃ (ys : List Int) (ok : Bool), (∀ (A : Option Addr) (c : Nat) (W : World) {B : Nat}, Rd W B A (iv x0) → x0.length ≤ 1048576 → Calls Try.prog 25 #[.agg #[.slice A x0.length c], .int .i64 a] W (MadeTagsB ys ok W)) ∧
      (∀ (A : Option Addr) (c : Nat) (W : World) {B : Nat}, Rd W B A (iv x0) → x0.length ≤ 1048576 → Calls Try.prog 22 #[.agg #[.slice A x0.length c], .int .i64 a] W (MadeTagsB ys ok W)) ∧ (x0.length ≤ 1048576 → ys.length ≤ 1048576) := by
    cases hh : hasB x0 a with
    | false => exact ⟨x0, false, fun A c W B hr hn => retag_s_no A c x0 a W hr hn hh, fun A c W B hr hn => retag_i_no A c x0 a W hr hn hh, id⟩
    | true =>
      obtain ⟨k, rfl, -⟩ := hasB_yes hh
      exact ⟨bump x0 k, true, fun A c W B hr hn => retag_s_yes A c x0 k W hr hn hh, fun A c W B hr hn => retag_i_yes A c x0 k W hr hn hh, by simp⟩
  replace HS := Lib.hid HS
  replace HI := Lib.hid HI
  replace hy := Lib.hid hy
  go_enter Try.func8, Try.ntmps8
  go_wp2_with fail
  refine (szTags_any _ _ _ _ _ (by omega) (by omega) hm00).mono ?_
  rintro e u1 ⟨r0, rfl, q0, s0, hb1⟩
  replace hr00 := (hr00.alloc _).below hb1
  have a00 : u1.cell? ⟨w.heap.size, 0, none⟩ = some (.slice A0 x0.length c0) := keep hb1 (by simp [go_sem])
  have la00 := lt_of_cell' a00
  have hz1 := hb1.size
  try simp only [World.size_alloc, World.size_drew] at hz1
  by_cases hneg0 : r0 < 0
  · go_wp2
    go_ret
    exact ⟨rfl, by (repeat' (first | (with_reducible exact Below.refl _ _) | (with_reducible refine bel_alloc ?_ ?_ _) | (with_reducible refine Below.setCell ?_ ?_ _) | (with_reducible refine below_drewN ?_ _) | (with_reducible refine Below.drew ?_) | (with_reducible refine bel_step hb1 ?_ ?_) | (with_reducible exact Nat.le_refl _) | (with_reducible assumption) | omega | (simp only [World.size_alloc, World.size_setCell, World.size_drew]; omega) | (simp; omega) | (simp; done)))⟩
  have hn00 : x0.length ≤ 1048576 := by have := s0 (by omega); omega
  clear s0 q0
  go_wp2_with fail
  refine (toTags_any _ _ _ _ hr00 hn00).mono ?_
  rintro e u2 ⟨A0w, c0w, rfl, ow00, hb2⟩
  clear la00
  replace hr00 := hr00.below hb2
  replace a00 := keep hb2 a00
  have la00 := lt_of_cell' a00
  have hz2 := hb2.size
  try simp only [World.size_alloc, World.size_drew] at hz2
  go_wp2_with fail
  refine (HS.out _ _ _ ow00.rd hn00).mono ?_
  rintro e u3 ⟨Aw0, cw0, rfl, rw00, hb3⟩
  clear la00
  replace hr00 := hr00.below hb3
  replace a00 := keep hb3 a00
  replace ow00 := ow00.below hb3
  have la00 := lt_of_cell' a00
  have hz3 := hb3.size
  try simp only [World.size_alloc, World.size_drew] at hz3
  go_wp2_with fail
  refine (toTags_any _ _ _ _ (hr00.alloc _) hn00).mono ?_
  rintro e u4 ⟨A0x, c0x, rfl, ox00, hb4⟩
  clear la00
  replace hr00 := (hr00.alloc _).below hb4
  replace a00 := keep hb4 (cell_al a00 _)
  replace rw00 := (rw00.alloc _).below hb4
  have bw00 : u4.cell? ⟨u3.heap.size, 0, none⟩ = some (.slice Aw0 ys.length cw0) := keep hb4 (by simp [go_sem])
  have la00 := lt_of_cell' a00
  have lbw00 := lt_of_cell' bw00
  have hz4 := hb4.size
  try simp only [World.size_alloc, World.size_drew] at hz4
  go_wp2_with fail
  refine (HI.out _ _ _ (ox00.alloc _).rd hn00).mono ?_
  rintro e u5 ⟨Ag0, cg0, rfl, rg00, hb5⟩
  clear la00 lbw00
  replace hr00 := (hr00.alloc _).below hb5
  replace a00 := keep hb5 (cell_al a00 _)
  replace rw00 := (rw00.alloc _).below hb5
  replace bw00 := keep hb5 (cell_al bw00 _)
  replace ox00 := (ox00.alloc _).below hb5
  have x00 : u5.cell? ⟨u4.heap.size, 0, none⟩ = some (.slice A0x x0.length c0x) := keep hb5 (by simp [go_sem])
  have la00 := lt_of_cell' a00
  have lbw00 := lt_of_cell' bw00
  have lx00 := lt_of_cell' x00
  have hz5 := hb5.size
  try simp only [World.size_alloc, World.size_drew] at hz5
  go_wp2_with fail
  refine (eqTags_same _ _ _ _ _ _ (rg00.alloc _).rd (rw00.alloc _).rd (hy.out hn00)).mono ?_
  rintro e u6 ⟨rfl, hb6⟩
  clear la00 lbw00 lx00
  replace hr00 := (hr00.alloc _).below hb6
  replace a00 := keep hb6 (cell_al a00 _)
  replace rw00 := (rw00.alloc _).below hb6
  replace bw00 := keep hb6 (cell_al bw00 _)
  replace ox00 := (ox00.alloc _).below hb6
  replace x00 := keep hb6 (cell_al x00 _)
  replace rg00 := (rg00.alloc _).below hb6
  have bg00 : u6.cell? ⟨u5.heap.size, 0, none⟩ = some (.slice Ag0 ys.length cg0) := keep hb6 (by simp [go_sem])
  have la00 := lt_of_cell' a00
  have lbw00 := lt_of_cell' bw00
  have lx00 := lt_of_cell' x00
  have lbg00 := lt_of_cell' bg00
  have hz6 := hb6.size
  try simp only [World.size_alloc, World.size_drew] at hz6
  go_wp2_with fail
  clear la00 lbw00 lx00 lbg00
  replace hr00 := (show Rd (World.drew _) _ _ _ from hr00)
  replace a00 := (show World.cell? (World.drew _) _ = _ from a00)
  replace rw00 := (show Ow (World.drew _) _ _ _ _ _ _ _ _ from rw00)
  replace bw00 := (show World.cell? (World.drew _) _ = _ from bw00)
  replace ox00 := (show Ow (World.drew _) _ _ _ _ _ _ _ _ from ox00)
  replace x00 := (show World.cell? (World.drew _) _ = _ from x00)
  replace rg00 := (show Ow (World.drew _) _ _ _ _ _ _ _ _ from rg00)
  replace bg00 := (show World.cell? (World.drew _) _ = _ from bg00)
  go_region_held3 (fun w' => w'.cell? ⟨w.heap.size, 0, none⟩ = some (.slice A0 x0.length c0) ∧ w'.cell? ⟨u4.heap.size, 0, none⟩ = some (.slice A0x x0.length c0x)) (first | go_keep | exact ⟨keep hb7 a00, keep hb7 x00⟩ | exact ⟨keep hb8 (keep hb7 a00), keep hb8 (keep hb7 x00)⟩)
    (first | (go_at_call 16; refine (toTags_any _ _ _ _ hr00 hn00).mono ?_; rintro e u7 ⟨A0y0, c0y0, rfl, oy000, hb7⟩) | (go_at_call 11; refine (eqTags_same _ _ _ _ _ _ (ox00.below hb7).rd oy000.rd hn00).mono ?_; rintro e u8 ⟨rfl, hb8⟩))
  replace hr00 := (hr00.below hb7).below hb8
  replace a00 := keep hb8 (keep hb7 a00)
  replace rw00 := (rw00.below hb7).below hb8
  replace bw00 := keep hb8 (keep hb7 bw00)
  replace ox00 := (ox00.below hb7).below hb8
  replace x00 := keep hb8 (keep hb7 x00)
  replace rg00 := (rg00.below hb7).below hb8
  replace bg00 := keep hb8 (keep hb7 bg00)
  have hz7 := hb7.size
  try simp only [World.size_alloc, World.size_drew] at hz7
  have hz8 := hb8.size
  try simp only [World.size_alloc, World.size_drew] at hz8
  have la00 := lt_of_cell' a00
  have lbw00 := lt_of_cell' bw00
  have lx00 := lt_of_cell' x00
  have lbg00 := lt_of_cell' bg00
  go_wp2_with fail
  refine (markTags_any _ _ _ _ _ ox00 hn00 (by omega) (by omega)).mono ?_
  rintro e u9 ⟨rfl, nox00, ho9⟩
  have hz9 := ho9.size
  try simp only [World.size_alloc, World.size_drew] at hz9
  clear la00 lbw00 lx00 lbg00
  replace hr00 := hr00.out ho9 (by first | omega | (simp; done) | (simp; omega))
  replace a00 := ho9.cell a00 (by first | omega | (simp; done) | (simp; omega))
  replace rw00 := rw00.out ho9 (by first | omega | (simp; done) | (simp; omega))
  replace bw00 := ho9.cell bw00 (by first | omega | (simp; done) | (simp; omega))
  replace x00 := ho9.cell x00 (by first | omega | (simp; done) | (simp; omega))
  replace rg00 := rg00.out ho9 (by first | omega | (simp; done) | (simp; omega))
  replace bg00 := ho9.cell bg00 (by first | omega | (simp; done) | (simp; omega))
  clear ox00
  have la00 := lt_of_cell' a00
  have lbw00 := lt_of_cell' bw00
  have lx00 := lt_of_cell' x00
  have lbg00 := lt_of_cell' bg00
  go_wp2_with fail
  refine (eqTags_same _ _ _ _ _ _ rg00.rd rw00.rd (hy.out hn00)).mono ?_
  rintro e u10 ⟨rfl, hb10⟩
  clear la00 lbw00 lx00 lbg00
  replace hr00 := hr00.below hb10
  replace a00 := keep hb10 a00
  replace rw00 := rw00.below hb10
  replace bw00 := keep hb10 bw00
  replace x00 := keep hb10 x00
  replace rg00 := rg00.below hb10
  replace bg00 := keep hb10 bg00
  replace nox00 := nox00.below hb10
  have la00 := lt_of_cell' a00
  have lbw00 := lt_of_cell' bw00
  have lx00 := lt_of_cell' x00
  have lbg00 := lt_of_cell' bg00
  have hz10 := hb10.size
  try simp only [World.size_alloc, World.size_drew] at hz10
  go_wp2_with fail
  refine (markTags_any _ _ _ _ _ rg00 (hy.out hn00) (by omega) (by omega)).mono ?_
  rintro e u11 ⟨rfl, nrg00, ho11⟩
  have hz11 := ho11.size
  try simp only [World.size_alloc, World.size_drew] at hz11
  clear la00 lbw00 lx00 lbg00
  replace hr00 := hr00.out ho11 (by first | omega | (simp; done) | (simp; omega))
  replace a00 := ho11.cell a00 (by first | omega | (simp; done) | (simp; omega))
  replace rw00 := rw00.out ho11 (by first | omega | (simp; done) | (simp; omega))
  replace bw00 := ho11.cell bw00 (by first | omega | (simp; done) | (simp; omega))
  replace x00 := ho11.cell x00 (by first | omega | (simp; done) | (simp; omega))
  replace bg00 := ho11.cell bg00 (by first | omega | (simp; done) | (simp; omega))
  replace nox00 := nox00.out ho11 (by first | omega | (simp; done) | (simp; omega))
  clear rg00
  have la00 := lt_of_cell' a00
  have lbw00 := lt_of_cell' bw00
  have lx00 := lt_of_cell' x00
  have lbg00 := lt_of_cell' bg00
  go_wp2_with fail
  refine (heldTags_any _ _ _ _ _ nrg00.rd (hy.out hn00) (by omega) (by omega)).mono ?_
  rintro e u12 ⟨rfl, hb12⟩
  clear la00 lbw00 lx00 lbg00
  replace hr00 := hr00.below hb12
  replace a00 := keep hb12 a00
  replace rw00 := rw00.below hb12
  replace bw00 := keep hb12 bw00
  replace x00 := keep hb12 x00
  replace bg00 := keep hb12 bg00
  replace nox00 := nox00.below hb12
  replace nrg00 := nrg00.below hb12
  have la00 := lt_of_cell' a00
  have lbw00 := lt_of_cell' bw00
  have lx00 := lt_of_cell' x00
  have lbg00 := lt_of_cell' bg00
  have hz12 := hb12.size
  try simp only [World.size_alloc, World.size_drew] at hz12
  go_wp2_with fail
  refine (toTags_any _ _ _ _ hr00 hn00).mono ?_
  rintro e u13 ⟨A0h, c0h, rfl, oh00, hb13⟩
  clear la00 lbw00 lx00 lbg00
  replace hr00 := hr00.below hb13
  replace a00 := keep hb13 a00
  replace rw00 := rw00.below hb13
  replace bw00 := keep hb13 bw00
  replace x00 := keep hb13 x00
  replace bg00 := keep hb13 bg00
  replace nox00 := nox00.below hb13
  replace nrg00 := nrg00.below hb13
  have la00 := lt_of_cell' a00
  have lbw00 := lt_of_cell' bw00
  have lx00 := lt_of_cell' x00
  have lbg00 := lt_of_cell' bg00
  have hz13 := hb13.size
  try simp only [World.size_alloc, World.size_drew] at hz13
  go_wp2_with fail
  refine (HI.out _ _ _ oh00.rd hn00).mono ?_
  rintro e u14 ⟨Ah0, ch0, rfl, rh00, hb14⟩
  clear la00 lbw00 lx00 lbg00
  replace hr00 := hr00.below hb14
  replace a00 := keep hb14 a00
  replace rw00 := rw00.below hb14
  replace bw00 := keep hb14 bw00
  replace x00 := keep hb14 x00
  replace bg00 := keep hb14 bg00
  replace nox00 := nox00.below hb14
  replace nrg00 := nrg00.below hb14
  replace oh00 := oh00.below hb14
  have la00 := lt_of_cell' a00
  have lbw00 := lt_of_cell' bw00
  have lx00 := lt_of_cell' x00
  have lbg00 := lt_of_cell' bg00
  have hz14 := hb14.size
  try simp only [World.size_alloc, World.size_drew] at hz14
  go_wp2_with fail
  refine (eqTags_same _ _ _ _ _ _ (rh00.alloc _).rd (rw00.alloc _).rd (hy.out hn00)).mono ?_
  rintro e u15 ⟨rfl, hb15⟩
  clear la00 lbw00 lx00 lbg00
  replace hr00 := (hr00.alloc _).below hb15
  replace a00 := keep hb15 (cell_al a00 _)
  replace rw00 := (rw00.alloc _).below hb15
  replace bw00 := keep hb15 (cell_al bw00 _)
  replace x00 := keep hb15 (cell_al x00 _)
  replace bg00 := keep hb15 (cell_al bg00 _)
  replace nox00 := (nox00.alloc _).below hb15
  replace nrg00 := (nrg00.alloc _).below hb15
  replace rh00 := (rh00.alloc _).below hb15
  have bh00 : u15.cell? ⟨u14.heap.size, 0, none⟩ = some (.slice Ah0 ys.length ch0) := keep hb15 (by simp [go_sem])
  have la00 := lt_of_cell' a00
  have lbw00 := lt_of_cell' bw00
  have lx00 := lt_of_cell' x00
  have lbg00 := lt_of_cell' bg00
  have lbh00 := lt_of_cell' bh00
  have hz15 := hb15.size
  try simp only [World.size_alloc, World.size_drew] at hz15
  go_wp2_with fail
  refine (heldTags_any _ _ _ _ _ nrg00.rd (hy.out hn00) (by omega) (by omega)).mono ?_
  rintro e u16 ⟨rfl, hb16⟩
  clear la00 lbw00 lx00 lbg00 lbh00
  replace hr00 := hr00.below hb16
  replace a00 := keep hb16 a00
  replace rw00 := rw00.below hb16
  replace bw00 := keep hb16 bw00
  replace x00 := keep hb16 x00
  replace bg00 := keep hb16 bg00
  replace nox00 := nox00.below hb16
  replace nrg00 := nrg00.below hb16
  replace rh00 := rh00.below hb16
  replace bh00 := keep hb16 bh00
  have la00 := lt_of_cell' a00
  have lbw00 := lt_of_cell' bw00
  have lx00 := lt_of_cell' x00
  have lbg00 := lt_of_cell' bg00
  have lbh00 := lt_of_cell' bh00
  have hz16 := hb16.size
  try simp only [World.size_alloc, World.size_drew] at hz16
  go_wp2
  go_ret
  exact ⟨rfl, by (repeat' (first | (with_reducible exact Below.refl _ _) | (with_reducible refine bel_alloc ?_ ?_ _) | (with_reducible refine Below.setCell ?_ ?_ _) | (with_reducible refine below_drewN ?_ _) | (with_reducible refine Below.drew ?_) | (with_reducible refine bel_step hb1 ?_ ?_) | (with_reducible refine bel_step hb2 ?_ ?_) | (with_reducible refine bel_step hb3 ?_ ?_) | (with_reducible refine bel_step hb4 ?_ ?_) | (with_reducible refine bel_step hb5 ?_ ?_) | (with_reducible refine bel_step hb6 ?_ ?_) | (with_reducible refine bel_step hb7 ?_ ?_) | (with_reducible refine bel_step hb8 ?_ ?_) | (with_reducible refine bel_out ho9 ?_ ?_ ?_) | (with_reducible refine bel_step hb10 ?_ ?_) | (with_reducible refine bel_out ho11 ?_ ?_ ?_) | (with_reducible refine bel_step hb12 ?_ ?_) | (with_reducible refine bel_step hb13 ?_ ?_) | (with_reducible refine bel_step hb14 ?_ ?_) | (with_reducible refine bel_step hb15 ?_ ?_) | (with_reducible refine bel_step hb16 ?_ ?_) | (with_reducible exact Nat.le_refl _) | (with_reducible assumption) | omega | (simp only [World.size_alloc, World.size_setCell, World.size_drew]; omega) | (simp; omega) | (simp; done)))⟩
end Go.Proofs.Ytlohnaodoniajaa
