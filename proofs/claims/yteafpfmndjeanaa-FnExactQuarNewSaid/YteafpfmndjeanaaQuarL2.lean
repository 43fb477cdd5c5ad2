/- The walk of the exact law on QuarNew. -/
import Derived.Test.YteafpfmndjeanaaQuarA
import Derived.Test.YteafpfmndjeanaaQuarN
import Derived.Deep.RegionHeld3
import Derived.Deep.DrawnRows
namespace Go.Proofs.Yteafpfmndjeanaa
open Go.ChangeShapes Go.WideShapes Go.ChangeAt Go.RowKit
set_option linter.unusedVariables false
attribute [local go_sem ↓] Go.wp_at_zero Go.wp_at_succ

set_option maxHeartbeats 16000000 in
set_option maxRecDepth 100000 in
theorem law_quarNew (p0 : Int) (w : World) (hp0 : -9223372036854775808 ≤ p0 ∧ p0 ≤ 9223372036854775807) : Calls Try.prog 3 #[.int .i64 p0] w fun e w' => e = .returned (.bool true) ∧ Below w.heap.size w w' := by
  go_enter Try.func3, Try.ntmps3
  go_wp2_with fail
  refine (quarNew_s _ _ _ rfl).mono ?_
  rintro e u1 ⟨Aw0, cw0, Tw00, rfl, rw00, hTw00, hb1⟩
  have hz1 := hb1.size
  try simp only [World.size_alloc, World.size_drew] at hz1
  replace hTw00 : ∀ b, Tw00 b → w.heap.size + 0 ≤ b ∧ b < u1.heap.size := fun b hb => by have := hTw00 b hb; (try simp only [World.size_alloc, World.size_drew] at this); omega
  go_wp2_with fail
  refine (quarNew_i _ _ _ rfl).mono ?_
  rintro e u2 ⟨Ag0, cg0, Tg00, rfl, rg00, hTg00, hb2⟩
  replace rw00 := (rw00.alloc _).below hb2
  have bw00 : u2.cell? ⟨u1.heap.size, 0, none⟩ = some (.int .i64 (qn p0)) := keep hb2 (by simp [go_sem])
  have bw01 : u2.cell? ⟨u1.heap.size, 1, none⟩ = some (.slice Aw0 ([] : List (Int × Int × Int)).length cw0) := keep hb2 (by simp [go_sem])
  have hz2 := hb2.size
  try simp only [World.size_alloc, World.size_drew] at hz2
  replace hTg00 : ∀ b, Tg00 b → u1.heap.size + 1 ≤ b ∧ b < u2.heap.size := fun b hb => by have := hTg00 b hb; (try simp only [World.size_alloc, World.size_drew] at this); omega
  have lbw00 := lt_of_cell' bw00
  go_wp2_with fail
  refine (eqQuar_same _ _ _ _ _ _ _ (rg00.alloc _).rd (rw00.alloc _).rd (Nat.zero_le _)).mono ?_
  rintro e u3 ⟨rfl, hb3⟩
  clear lbw00
  replace rw00 := (rw00.alloc _).below hb3
  replace bw00 := keep hb3 (cell_al bw00 _)
  replace bw01 := keep hb3 (cell_al bw01 _)
  replace rg00 := (rg00.alloc _).below hb3
  have bg00 : u3.cell? ⟨u2.heap.size, 0, none⟩ = some (.int .i64 (qn p0)) := keep hb3 (by simp [go_sem])
  have bg01 : u3.cell? ⟨u2.heap.size, 1, none⟩ = some (.slice Ag0 ([] : List (Int × Int × Int)).length cg0) := keep hb3 (by simp [go_sem])
  have hz3 := hb3.size
  try simp only [World.size_alloc, World.size_drew] at hz3
  have lbw00 := lt_of_cell' bw00
  have lbg00 := lt_of_cell' bg00
  go_wp2_with fail
  refine (markQuar_any _ _ _ _ _ _ rg00 (Nat.zero_le _) (by omega) (by omega)).mono ?_
  rintro e u4 ⟨rfl, nrg00, ho4⟩
  have hz4 := ho4.size
  try simp only [World.size_alloc, World.size_drew] at hz4
  clear lbw00 lbg00
  have hl4 : ∀ b, Tg00 b → w.heap.size ≤ b := fun b hb => by have := hTg00 b hb; omega
  replace rw00 := rw00.outS ho4 (fun b hb hx => by first | (have h1 := hTw00 b hb; have h2 := hTg00 b hx; omega))
  replace bw00 := ho4.cell bw00 (fun hb => by have := hTg00 _ hb; first | omega | (dsimp only at this; omega) | (simp at this; omega))
  replace bw01 := ho4.cell bw01 (fun hb => by have := hTg00 _ hb; first | omega | (dsimp only at this; omega) | (simp at this; omega))
  replace bg00 := ho4.cell bg00 (fun hb => by have := hTg00 _ hb; first | omega | (dsimp only at this; omega) | (simp at this; omega))
  replace bg01 := ho4.cell bg01 (fun hb => by have := hTg00 _ hb; first | omega | (dsimp only at this; omega) | (simp at this; omega))
  clear rg00
  have lbw00 := lt_of_cell' bw00
  have lbg00 := lt_of_cell' bg00
  go_wp2_with fail
  refine (heldQuar_b _ _ _ _ _ _ nrg00.rd (Nat.zero_le _) (by omega) (by omega)).mono ?_
  rintro e u5 ⟨rfl, hb5⟩
  clear lbw00 lbg00
  replace rw00 := rw00.below hb5
  replace bw00 := keep hb5 bw00
  replace bw01 := keep hb5 bw01
  replace bg00 := keep hb5 bg00
  replace bg01 := keep hb5 bg01
  replace nrg00 := nrg00.below hb5
  have hz5 := hb5.size
  try simp only [World.size_alloc, World.size_drew] at hz5
  have lbw00 := lt_of_cell' bw00
  have lbg00 := lt_of_cell' bg00
  go_wp2_with fail
  refine (quarNew_i _ _ _ rfl).mono ?_
  rintro e u6 ⟨Ah0, ch0, Th00, rfl, rh00, hTh00, hb6⟩
  clear lbw00 lbg00
  replace rw00 := rw00.below hb6
  replace bw00 := keep hb6 bw00
  replace bw01 := keep hb6 bw01
  replace bg00 := keep hb6 bg00
  replace bg01 := keep hb6 bg01
  replace nrg00 := nrg00.below hb6
  have hz6 := hb6.size
  try simp only [World.size_alloc, World.size_drew] at hz6
  replace hTh00 : ∀ b, Th00 b → u5.heap.size + 0 ≤ b ∧ b < u6.heap.size := fun b hb => by have := hTh00 b hb; (try simp only [World.size_alloc, World.size_drew] at this); omega
  have lbw00 := lt_of_cell' bw00
  have lbg00 := lt_of_cell' bg00
  go_wp2_with fail
  refine (eqQuar_same _ _ _ _ _ _ _ (rh00.alloc _).rd (rw00.alloc _).rd (Nat.zero_le _)).mono ?_
  rintro e u7 ⟨rfl, hb7⟩
  clear lbw00 lbg00
  replace rw00 := (rw00.alloc _).below hb7
  replace bw00 := keep hb7 (cell_al bw00 _)
  replace bw01 := keep hb7 (cell_al bw01 _)
  replace bg00 := keep hb7 (cell_al bg00 _)
  replace bg01 := keep hb7 (cell_al bg01 _)
  replace nrg00 := (nrg00.alloc _).below hb7
  replace rh00 := (rh00.alloc _).below hb7
  have bh00 : u7.cell? ⟨u6.heap.size, 0, none⟩ = some (.int .i64 (qn p0)) := keep hb7 (by simp [go_sem])
  have bh01 : u7.cell? ⟨u6.heap.size, 1, none⟩ = some (.slice Ah0 ([] : List (Int × Int × Int)).length ch0) := keep hb7 (by simp [go_sem])
  have hz7 := hb7.size
  try simp only [World.size_alloc, World.size_drew] at hz7
  have lbw00 := lt_of_cell' bw00
  have lbg00 := lt_of_cell' bg00
  have lbh00 := lt_of_cell' bh00
  go_wp2_with fail
  refine (heldQuar_b _ _ _ _ _ _ nrg00.rd (Nat.zero_le _) (by omega) (by omega)).mono ?_
  rintro e u8 ⟨rfl, hb8⟩
  clear lbw00 lbg00 lbh00
  replace rw00 := rw00.below hb8
  replace bw00 := keep hb8 bw00
  replace bw01 := keep hb8 bw01
  replace bg00 := keep hb8 bg00
  replace bg01 := keep hb8 bg01
  replace nrg00 := nrg00.below hb8
  replace rh00 := rh00.below hb8
  replace bh00 := keep hb8 bh00
  replace bh01 := keep hb8 bh01
  have hz8 := hb8.size
  try simp only [World.size_alloc, World.size_drew] at hz8
  have lbw00 := lt_of_cell' bw00
  have lbg00 := lt_of_cell' bg00
  have lbh00 := lt_of_cell' bh00
  all_goals
    go_wp2
    go_ret
    exact ⟨rfl, by (repeat' (first | (with_reducible exact Below.refl _ _) | (with_reducible refine bel_alloc ?_ ?_ _) | (with_reducible refine Below.setCell ?_ ?_ _) | (with_reducible refine below_drewN ?_ _) | (with_reducible refine Below.drew ?_) | (with_reducible refine bel_step hb1 ?_ ?_) | (with_reducible refine bel_step hb2 ?_ ?_) | (with_reducible refine bel_step hb3 ?_ ?_) | (with_reducible refine bel_outS ho4 hl4 ?_ ?_) | (with_reducible refine bel_step hb5 ?_ ?_) | (with_reducible refine bel_step hb6 ?_ ?_) | (with_reducible refine bel_step hb7 ?_ ?_) | (with_reducible refine bel_step hb8 ?_ ?_) | (with_reducible exact Nat.le_refl _) | (with_reducible assumption) | omega | (simp only [World.size_alloc, World.size_setCell, World.size_drew]; omega) | (simp; omega) | (simp; done)))⟩
end Go.Proofs.Yteafpfmndjeanaa
