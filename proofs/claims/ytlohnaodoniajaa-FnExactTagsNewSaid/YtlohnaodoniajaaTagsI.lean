/- The walk of the exact law on TagsNew. -/
import Derived.Test.YtlohnaodoniajaaTagsN
import Derived.Deep.RegionHeld3
import Derived.Deep.DrawnRows
namespace Go.Proofs.Ytlohnaodoniajaa
open Go.ChangeShapes Go.WideShapes Go.ChangeAt Go.RowKit
set_option linter.unusedVariables false
attribute [local go_sem ↓] Go.wp_at_zero Go.wp_at_succ

set_option maxHeartbeats 8000000 in
theorem law_tagsNew (n : Int) (w : World)  : Calls Try.prog 3 #[.int .i64 n] w fun e w' => e = .returned (.bool true) ∧ Below w.heap.size w w' := by
  obtain ⟨ys, ok, HS, HI, hy⟩ : ∃ (ys : List Int) (ok : Bool), (∀ (W : World), Calls Try.prog 9 #[.int .i64 n] W (MadeTagsB ys ok W)) ∧ (∀ (W : World), Calls Try.prog 10 #[.int .i64 n] W (MadeTagsB ys ok W)) ∧ ys.length ≤ 1048576 := by
    cases hh : btw n 1 512 with
    | false => exact ⟨[], false, fun W => tagsNew_s_no n W hh, fun W => tagsNew_i_no n W hh, by simp⟩
    | true =>
      have hn := of_btw hh
      obtain ⟨k, rfl⟩ := Int.eq_ofNat_of_zero_le (show 0 ≤ n by omega)
      exact ⟨List.replicate k 0, true, fun W => tagsNew_s_yes k W hh, fun W => tagsNew_i_yes k W hh, by simp; omega⟩
  replace HS := Lib.hid HS
  replace HI := Lib.hid HI
  go_enter Try.func3, Try.ntmps3
  go_wp2_with fail
  refine (HS.out _).mono ?_
  rintro e u1 ⟨Aw0, cw0, rfl, rw00, hb1⟩
  have hz1 := hb1.size
  try simp only [World.size_alloc, World.size_drew] at hz1
  go_wp2_with fail
  refine (HI.out _).mono ?_
  rintro e u2 ⟨Ag0, cg0, rfl, rg00, hb2⟩
  replace rw00 := (rw00.alloc _).below hb2
  have bw00 : u2.cell? ⟨u1.heap.size, 0, none⟩ = some (.slice Aw0 ys.length cw0) := keep hb2 (by simp [go_sem])
  have lbw00 := lt_of_cell' bw00
  have hz2 := hb2.size
  try simp only [World.size_alloc, World.size_drew] at hz2
  go_wp2_with fail
  refine (eqTags_same _ _ _ _ _ _ (rg00.alloc _).rd (rw00.alloc _).rd hy).mono ?_
  rintro e u3 ⟨rfl, hb3⟩
  clear lbw00
  replace rw00 := (rw00.alloc _).below hb3
  replace bw00 := keep hb3 (cell_al bw00 _)
  replace rg00 := (rg00.alloc _).below hb3
  have bg00 : u3.cell? ⟨u2.heap.size, 0, none⟩ = some (.slice Ag0 ys.length cg0) := keep hb3 (by simp [go_sem])
  have lbw00 := lt_of_cell' bw00
  have lbg00 := lt_of_cell' bg00
  have hz3 := hb3.size
  try simp only [World.size_alloc, World.size_drew] at hz3
  go_wp2_with fail
  refine (markTags_any _ _ _ _ _ rg00 hy (by omega) (by omega)).mono ?_
  rintro e u4 ⟨rfl, nrg00, ho4⟩
  have hz4 := ho4.size
  try simp only [World.size_alloc, World.size_drew] at hz4
  clear lbw00 lbg00
  replace rw00 := rw00.out ho4 (by first | omega | (simp; done) | (simp; omega))
  replace bw00 := ho4.cell bw00 (by first | omega | (simp; done) | (simp; omega))
  replace bg00 := ho4.cell bg00 (by first | omega | (simp; done) | (simp; omega))
  clear rg00
  have lbw00 := lt_of_cell' bw00
  have lbg00 := lt_of_cell' bg00
  go_wp2_with fail
  refine (heldTags_any _ _ _ _ _ nrg00.rd hy (by omega) (by omega)).mono ?_
  rintro e u5 ⟨rfl, hb5⟩
  clear lbw00 lbg00
  replace rw00 := rw00.below hb5
  replace bw00 := keep hb5 bw00
  replace bg00 := keep hb5 bg00
  replace nrg00 := nrg00.below hb5
  have lbw00 := lt_of_cell' bw00
  have lbg00 := lt_of_cell' bg00
  have hz5 := hb5.size
  try simp only [World.size_alloc, World.size_drew] at hz5
  go_wp2_with fail
  refine (HI.out _).mono ?_
  rintro e u6 ⟨Ah0, ch0, rfl, rh00, hb6⟩
  clear lbw00 lbg00
  replace rw00 := rw00.below hb6
  replace bw00 := keep hb6 bw00
  replace bg00 := keep hb6 bg00
  replace nrg00 := nrg00.below hb6
  have lbw00 := lt_of_cell' bw00
  have lbg00 := lt_of_cell' bg00
  have hz6 := hb6.size
  try simp only [World.size_alloc, World.size_drew] at hz6
  go_wp2_with fail
  refine (eqTags_same _ _ _ _ _ _ (rh00.alloc _).rd (rw00.alloc _).rd hy).mono ?_
  rintro e u7 ⟨rfl, hb7⟩
  clear lbw00 lbg00
  replace rw00 := (rw00.alloc _).below hb7
  replace bw00 := keep hb7 (cell_al bw00 _)
  replace bg00 := keep hb7 (cell_al bg00 _)
  replace nrg00 := (nrg00.alloc _).below hb7
  replace rh00 := (rh00.alloc _).below hb7
  have bh00 : u7.cell? ⟨u6.heap.size, 0, none⟩ = some (.slice Ah0 ys.length ch0) := keep hb7 (by simp [go_sem])
  have lbw00 := lt_of_cell' bw00
  have lbg00 := lt_of_cell' bg00
  have lbh00 := lt_of_cell' bh00
  have hz7 := hb7.size
  try simp only [World.size_alloc, World.size_drew] at hz7
  go_wp2_with fail
  refine (heldTags_any _ _ _ _ _ nrg00.rd hy (by omega) (by omega)).mono ?_
  rintro e u8 ⟨rfl, hb8⟩
  clear lbw00 lbg00 lbh00
  replace rw00 := rw00.below hb8
  replace bw00 := keep hb8 bw00
  replace bg00 := keep hb8 bg00
  replace nrg00 := nrg00.below hb8
  replace rh00 := rh00.below hb8
  replace bh00 := keep hb8 bh00
  have lbw00 := lt_of_cell' bw00
  have lbg00 := lt_of_cell' bg00
  have lbh00 := lt_of_cell' bh00
  have hz8 := hb8.size
  try simp only [World.size_alloc, World.size_drew] at hz8
  go_wp2
  go_ret
  exact ⟨rfl, by (repeat' (first | (with_reducible exact Below.refl _ _) | (with_reducible refine bel_alloc ?_ ?_ _) | (with_reducible refine Below.setCell ?_ ?_ _) | (with_reducible refine below_drewN ?_ _) | (with_reducible refine Below.drew ?_) | (with_reducible refine bel_step hb1 ?_ ?_) | (with_reducible refine bel_step hb2 ?_ ?_) | (with_reducible refine bel_step hb3 ?_ ?_) | (with_reducible refine bel_out ho4 ?_ ?_ ?_) | (with_reducible refine bel_step hb5 ?_ ?_) | (with_reducible refine bel_step hb6 ?_ ?_) | (with_reducible refine bel_step hb7 ?_ ?_) | (with_reducible refine bel_step hb8 ?_ ?_) | (with_reducible exact Nat.le_refl _) | (with_reducible assumption) | omega | (simp only [World.size_alloc, World.size_setCell, World.size_drew]; omega) | (simp; omega) | (simp; done)))⟩
end Go.Proofs.Ytlohnaodoniajaa
