/- The walk of the exact law on GuardCells. -/
import Derived.Test.YtljholnnhogdkaaGuardB
import Derived.Deep.RegionHeld3
import Derived.Deep.DrawnRows
namespace Go.Proofs.Ytljholnnhogdkaa
open Go.ChangeShapes Go.WideShapes Go.ChangeAt Go.RowKit
set_option linter.unusedVariables false
attribute [local go_sem ↓] Go.wp_at_zero Go.wp_at_succ

set_option maxHeartbeats 16000000 in
set_option maxRecDepth 100000 in
theorem law_guardCells (p0 : Int) (p1 : Int) (w : World) (hp0 : -9223372036854775808 ≤ p0 ∧ p0 ≤ 9223372036854775807) (hp1 : -9223372036854775808 ≤ p1 ∧ p1 ≤ 9223372036854775807) : Calls Try.prog 3 #[.int .i64 p0, .int .i64 p1] w fun e w' => e = .returned (.bool true) ∧ Below w.heap.size w w' := by
  go_enter Try.func3, Try.ntmps3
  go_wp2_with fail
  refine (guard_s _ _ _).mono ?_
  rintro e u1 ⟨Aw0, cw0, Tw00, rfl, rw00, hTw00, hb1⟩
  have hz1 := hb1.size
  try simp only [World.size_alloc, World.size_drew] at hz1
  replace hTw00 : ∀ b, Tw00 b → w.heap.size + 0 ≤ b ∧ b < u1.heap.size := fun b hb => by have := hTw00 b hb; (try simp only [World.size_alloc, World.size_drew] at this); omega
  go_wp2_with fail
  refine (guard_i _ _ _).mono ?_
  rintro e u2 ⟨Ag0, cg0, Tg00, rfl, rg00, hTg00, hb2⟩
  replace rw00 := rw00.below hb2
  have hz2 := hb2.size
  try simp only [World.size_alloc, World.size_drew] at hz2
  replace hTg00 : ∀ b, Tg00 b → u1.heap.size + 0 ≤ b ∧ b < u2.heap.size := fun b hb => by have := hTg00 b hb; (try simp only [World.size_alloc, World.size_drew] at this); omega
  go_wp2_with fail
  refine (eqIntS_same _ _ _ _ _ _ rg00.rd rw00.rd (gList_len _ _)).mono ?_
  rintro e u3 ⟨rfl, hb3⟩
  replace rw00 := rw00.below hb3
  replace rg00 := rg00.below hb3
  have hz3 := hb3.size
  try simp only [World.size_alloc, World.size_drew] at hz3
  go_wp2_with fail
  refine (markIntS_w _ _ _ _ _ rg00 (gList_len _ _) (by omega) (by omega)).mono ?_
  rintro e u4 ⟨rfl, nrg00, ho4⟩
  have hz4 := ho4.size
  try simp only [World.size_alloc, World.size_drew] at hz4
  have hl4 : ∀ b, Tg00 b → w.heap.size ≤ b := fun b hb => by have := hTg00 b hb; omega
  replace rw00 := rw00.outS ho4 (fun b hb hx => by first | (have h1 := hTw00 b hb; have h2 := hTg00 b hx; omega))
  clear rg00
  go_wp2_with fail
  refine (heldIntS_b _ _ _ _ _ nrg00.rd (gList_len _ _) (by omega) (by omega)).mono ?_
  rintro e u5 ⟨rfl, hb5⟩
  replace rw00 := rw00.below hb5
  replace nrg00 := nrg00.below hb5
  have hz5 := hb5.size
  try simp only [World.size_alloc, World.size_drew] at hz5
  go_wp2_with fail
  refine (guard_i _ _ _).mono ?_
  rintro e u6 ⟨Ah0, ch0, Th00, rfl, rh00, hTh00, hb6⟩
  replace rw00 := rw00.below hb6
  replace nrg00 := nrg00.below hb6
  have hz6 := hb6.size
  try simp only [World.size_alloc, World.size_drew] at hz6
  replace hTh00 : ∀ b, Th00 b → u5.heap.size + 0 ≤ b ∧ b < u6.heap.size := fun b hb => by have := hTh00 b hb; (try simp only [World.size_alloc, World.size_drew] at this); omega
  go_wp2_with fail
  refine (eqIntS_same _ _ _ _ _ _ rh00.rd rw00.rd (gList_len _ _)).mono ?_
  rintro e u7 ⟨rfl, hb7⟩
  replace rw00 := rw00.below hb7
  replace nrg00 := nrg00.below hb7
  replace rh00 := rh00.below hb7
  have hz7 := hb7.size
  try simp only [World.size_alloc, World.size_drew] at hz7
  go_wp2_with fail
  refine (heldIntS_b _ _ _ _ _ nrg00.rd (gList_len _ _) (by omega) (by omega)).mono ?_
  rintro e u8 ⟨rfl, hb8⟩
  replace rw00 := rw00.below hb8
  replace nrg00 := nrg00.below hb8
  replace rh00 := rh00.below hb8
  have hz8 := hb8.size
  try simp only [World.size_alloc, World.size_drew] at hz8
  all_goals
    go_wp2
    go_ret
    exact ⟨rfl, by (repeat' (first | (with_reducible exact Below.refl _ _) | (with_reducible refine bel_alloc ?_ ?_ _) | (with_reducible refine Below.setCell ?_ ?_ _) | (with_reducible refine below_drewN ?_ _) | (with_reducible refine Below.drew ?_) | (with_reducible refine bel_step hb1 ?_ ?_) | (with_reducible refine bel_step hb2 ?_ ?_) | (with_reducible refine bel_step hb3 ?_ ?_) | (with_reducible refine bel_outS ho4 hl4 ?_ ?_) | (with_reducible refine bel_step hb5 ?_ ?_) | (with_reducible refine bel_step hb6 ?_ ?_) | (with_reducible refine bel_step hb7 ?_ ?_) | (with_reducible refine bel_step hb8 ?_ ?_) | (with_reducible exact Nat.le_refl _) | (with_reducible assumption) | omega | (simp only [World.size_alloc, World.size_setCell, World.size_drew]; omega) | (simp; omega) | (simp; done)))⟩
end Go.Proofs.Ytljholnnhogdkaa
