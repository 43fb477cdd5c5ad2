/- The walk of the exact law on MailNew. -/
import Derived.Test.YtggigndkamkclaaMailN
import Derived.Deep.RegionHeld3
import Derived.Deep.DrawnRows
namespace Go.Proofs.Ytggigndkamkclaa
open Go.ChangeShapes Go.WideShapes Go.ChangeAt Go.RowKit
set_option linter.unusedVariables false
attribute [local go_sem ↓] Go.wp_at_zero Go.wp_at_succ

set_option maxHeartbeats 16000000 in
set_option maxRecDepth 100000 in
theorem law_mailNew (p0 : Int) (w : World) (hp0 : -9223372036854775808 ≤ p0 ∧ p0 ≤ 9223372036854775807) : Calls Try.prog 4 #[.int .i64 p0] w fun e w' => e = .returned (.bool true) ∧ Below w.heap.size w w' := by
  obtain ⟨ys, zs, ok, HS, HI, hy⟩ : ∃ (ys : List (List Po)) (zs : List (List Int)) (ok : Bool), (∀ (W : World), Calls Try.prog 17 #[.int .i64 p0] W (MadeMailB ys zs ok W)) ∧ (∀ (W : World), Calls Try.prog 13 #[.int .i64 p0] W (MadeMailB ys zs ok W)) ∧ (Rows ys ∧ Rows zs) := by
    refine ⟨_, _, _, fun W => mailNew_s p0 W _ rfl, fun W => mailNew_i p0 W _ rfl, ?_⟩
    cases h : btw p0 1 4 with
    | false => exact ⟨⟨by simp, by simp⟩, ⟨by simp, by simp⟩⟩
    | true =>
      have hb := of_btw h
      exact ⟨⟨by simp; omega, fun l hl => by simp at hl; rw [hl.2]; simp⟩, ⟨by simp; omega, fun l hl => by simp at hl; rw [hl.2]; simp⟩⟩
  replace HS := Lib.hid HS
  replace HI := Lib.hid HI
  go_enter Try.func4, Try.ntmps4
  go_wp2_with fail
  refine (HS.out _).mono ?_
  rintro e u1 ⟨Aw0, cw0, Bw0, dw0, Tw00, Tw01, rfl, rw00, rw01, hTw00, hTw01, Dw01, hb1⟩
  have hz1 := hb1.size
  try simp only [World.size_alloc, World.size_drew] at hz1
  replace hTw00 : ∀ b, Tw00 b → w.heap.size + 0 ≤ b ∧ b < u1.heap.size := fun b hb => by have := hTw00 b hb; (try simp only [World.size_alloc, World.size_drew] at this); omega
  replace hTw01 : ∀ b, Tw01 b → w.heap.size + 0 ≤ b ∧ b < u1.heap.size := fun b hb => by have := hTw01 b hb; (try simp only [World.size_alloc, World.size_drew] at this); omega
  go_wp2_with fail
  refine (HI.out _).mono ?_
  rintro e u2 ⟨Ag0, cg0, Bg0, dg0, Tg00, Tg01, rfl, rg00, rg01, hTg00, hTg01, Dg01, hb2⟩
  replace rw00 := (rw00.alloc _).below hb2
  replace rw01 := (rw01.alloc _).below hb2
  have bw00 : u2.cell? ⟨u1.heap.size, 0, none⟩ = some (.slice Aw0 ys.length cw0) := keep hb2 (by simp [go_sem])
  have bw01 : u2.cell? ⟨u1.heap.size, 1, none⟩ = some (.slice Bw0 zs.length dw0) := keep hb2 (by simp [go_sem])
  have hz2 := hb2.size
  try simp only [World.size_alloc, World.size_drew] at hz2
  replace hTg00 : ∀ b, Tg00 b → u1.heap.size + 1 ≤ b ∧ b < u2.heap.size := fun b hb => by have := hTg00 b hb; (try simp only [World.size_alloc, World.size_drew] at this); omega
  replace hTg01 : ∀ b, Tg01 b → u1.heap.size + 1 ≤ b ∧ b < u2.heap.size := fun b hb => by have := hTg01 b hb; (try simp only [World.size_alloc, World.size_drew] at this); omega
  have lbw00 := lt_of_cell' bw00
  go_wp2_with fail
  refine (eqMail_same _ _ _ _ _ _ _ _ _ _ _ (rg00.alloc _).rd (rw00.alloc _).rd (rg01.alloc _).rd (rw01.alloc _).rd hy).mono ?_
  rintro e u3 ⟨rfl, hb3⟩
  clear lbw00
  replace rw00 := (rw00.alloc _).below hb3
  replace rw01 := (rw01.alloc _).below hb3
  replace bw00 := keep hb3 (cell_al bw00 _)
  replace bw01 := keep hb3 (cell_al bw01 _)
  replace rg00 := (rg00.alloc _).below hb3
  replace rg01 := (rg01.alloc _).below hb3
  have bg00 : u3.cell? ⟨u2.heap.size, 0, none⟩ = some (.slice Ag0 ys.length cg0) := keep hb3 (by simp [go_sem])
  have bg01 : u3.cell? ⟨u2.heap.size, 1, none⟩ = some (.slice Bg0 zs.length dg0) := keep hb3 (by simp [go_sem])
  have hz3 := hb3.size
  try simp only [World.size_alloc, World.size_drew] at hz3
  have lbw00 := lt_of_cell' bw00
  have lbg00 := lt_of_cell' bg00
  go_wp2_with fail
  refine (markMail_any _ _ _ _ _ _ _ _ rg00 rg01 Dg01 hy (by omega) (by omega) (fun b hb => by have := hTg00 b hb; omega) (fun b hb => by have := hTg01 b hb; omega)).mono ?_
  rintro e u4 ⟨rfl, nrg00, nrg01, ho4⟩
  have hz4 := ho4.size
  try simp only [World.size_alloc, World.size_drew] at hz4
  clear lbw00 lbg00
  have hl4 : ∀ b, (fun b => Tg00 b ∨ Tg01 b) b → w.heap.size ≤ b := fun b hb => by rcases hb with hb | hb <;> first | (have := hTg00 b hb; omega) | (have := hTg01 b hb; omega)
  replace rw00 := rw00.outS ho4 (fun b hb hx => by rcases hx with hx | hx <;> first | (have h1 := hTw00 b hb; have h2 := hTg00 b hx; omega) | (have h1 := hTw00 b hb; have h2 := hTg01 b hx; omega))
  replace rw01 := rw01.outS ho4 (fun b hb hx => by rcases hx with hx | hx <;> first | (have h1 := hTw01 b hb; have h2 := hTg00 b hx; omega) | (have h1 := hTw01 b hb; have h2 := hTg01 b hx; omega))
  replace bw00 := ho4.cell bw00 (fun hb => by rcases hb with hb | hb <;> first | (have := hTg00 _ hb; first | omega | (dsimp only at this; omega) | (simp at this; omega)) | (have := hTg01 _ hb; first | omega | (dsimp only at this; omega) | (simp at this; omega)))
  replace bw01 := ho4.cell bw01 (fun hb => by rcases hb with hb | hb <;> first | (have := hTg00 _ hb; first | omega | (dsimp only at this; omega) | (simp at this; omega)) | (have := hTg01 _ hb; first | omega | (dsimp only at this; omega) | (simp at this; omega)))
  replace bg00 := ho4.cell bg00 (fun hb => by rcases hb with hb | hb <;> first | (have := hTg00 _ hb; first | omega | (dsimp only at this; omega) | (simp at this; omega)) | (have := hTg01 _ hb; first | omega | (dsimp only at this; omega) | (simp at this; omega)))
  replace bg01 := ho4.cell bg01 (fun hb => by rcases hb with hb | hb <;> first | (have := hTg00 _ hb; first | omega | (dsimp only at this; omega) | (simp at this; omega)) | (have := hTg01 _ hb; first | omega | (dsimp only at this; omega) | (simp at this; omega)))
  clear rg00
  clear rg01
  have lbw00 := lt_of_cell' bw00
  have lbg00 := lt_of_cell' bg00
  go_wp2_with fail
  refine (heldMail_b _ _ _ _ _ _ _ _ nrg00.rd nrg01.rd hy (by omega) (by omega)).mono ?_
  rintro e u5 ⟨rfl, hb5⟩
  clear lbw00 lbg00
  replace rw00 := rw00.below hb5
  replace rw01 := rw01.below hb5
  replace bw00 := keep hb5 bw00
  replace bw01 := keep hb5 bw01
  replace bg00 := keep hb5 bg00
  replace bg01 := keep hb5 bg01
  replace nrg00 := nrg00.below hb5
  replace nrg01 := nrg01.below hb5
  have hz5 := hb5.size
  try simp only [World.size_alloc, World.size_drew] at hz5
  have lbw00 := lt_of_cell' bw00
  have lbg00 := lt_of_cell' bg00
  go_wp2_with fail
  refine (HI.out _).mono ?_
  rintro e u6 ⟨Ah0, ch0, Bh0, dh0, Th00, Th01, rfl, rh00, rh01, hTh00, hTh01, Dh01, hb6⟩
  clear lbw00 lbg00
  replace rw00 := rw00.below hb6
  replace rw01 := rw01.below hb6
  replace bw00 := keep hb6 bw00
  replace bw01 := keep hb6 bw01
  replace bg00 := keep hb6 bg00
  replace bg01 := keep hb6 bg01
  replace nrg00 := nrg00.below hb6
  replace nrg01 := nrg01.below hb6
  have hz6 := hb6.size
  try simp only [World.size_alloc, World.size_drew] at hz6
  replace hTh00 : ∀ b, Th00 b → u5.heap.size + 0 ≤ b ∧ b < u6.heap.size := fun b hb => by have := hTh00 b hb; (try simp only [World.size_alloc, World.size_drew] at this); omega
  replace hTh01 : ∀ b, Th01 b → u5.heap.size + 0 ≤ b ∧ b < u6.heap.size := fun b hb => by have := hTh01 b hb; (try simp only [World.size_alloc, World.size_drew] at this); omega
  have lbw00 := lt_of_cell' bw00
  have lbg00 := lt_of_cell' bg00
  go_wp2_with fail
  refine (eqMail_same _ _ _ _ _ _ _ _ _ _ _ (rh00.alloc _).rd (rw00.alloc _).rd (rh01.alloc _).rd (rw01.alloc _).rd hy).mono ?_
  rintro e u7 ⟨rfl, hb7⟩
  clear lbw00 lbg00
  replace rw00 := (rw00.alloc _).below hb7
  replace rw01 := (rw01.alloc _).below hb7
  replace bw00 := keep hb7 (cell_al bw00 _)
  replace bw01 := keep hb7 (cell_al bw01 _)
  replace bg00 := keep hb7 (cell_al bg00 _)
  replace bg01 := keep hb7 (cell_al bg01 _)
  replace nrg00 := (nrg00.alloc _).below hb7
  replace nrg01 := (nrg01.alloc _).below hb7
  replace rh00 := (rh00.alloc _).below hb7
  replace rh01 := (rh01.alloc _).below hb7
  have bh00 : u7.cell? ⟨u6.heap.size, 0, none⟩ = some (.slice Ah0 ys.length ch0) := keep hb7 (by simp [go_sem])
  have bh01 : u7.cell? ⟨u6.heap.size, 1, none⟩ = some (.slice Bh0 zs.length dh0) := keep hb7 (by simp [go_sem])
  have hz7 := hb7.size
  try simp only [World.size_alloc, World.size_drew] at hz7
  have lbw00 := lt_of_cell' bw00
  have lbg00 := lt_of_cell' bg00
  have lbh00 := lt_of_cell' bh00
  go_wp2_with fail
  refine (heldMail_b _ _ _ _ _ _ _ _ nrg00.rd nrg01.rd hy (by omega) (by omega)).mono ?_
  rintro e u8 ⟨rfl, hb8⟩
  clear lbw00 lbg00 lbh00
  replace rw00 := rw00.below hb8
  replace rw01 := rw01.below hb8
  replace bw00 := keep hb8 bw00
  replace bw01 := keep hb8 bw01
  replace bg00 := keep hb8 bg00
  replace bg01 := keep hb8 bg01
  replace nrg00 := nrg00.below hb8
  replace nrg01 := nrg01.below hb8
  replace rh00 := rh00.below hb8
  replace rh01 := rh01.below hb8
  replace bh00 := keep hb8 bh00
  replace bh01 := keep hb8 bh01
  have hz8 := hb8.size
  try simp only [World.size_alloc, World.size_drew] at hz8
  have lbw00 := lt_of_cell' bw00
  have lbg00 := lt_of_cell' bg00
  have lbh00 := lt_of_cell' bh00
  all_goals
    go_wp2
    go_ret
    exact ⟨rfl, by (repeat' (first | (with_reducible exact Below.refl _ _) | (with_reducible refine bel_alloc ?_ ?_ _) | (with_reducible refine Below.setCell ?_ ?_ _) | (with_reducible refine below_drewN ?_ _) | (with_reducible refine Below.drew ?_) | (with_reducible refine bel_step hb1 ?_ ?_) | (with_reducible refine bel_step hb2 ?_ ?_) | (with_reducible refine bel_step hb3 ?_ ?_) | (with_reducible refine bel_outS ho4 hl4 ?_ ?_) | (with_reducible refine bel_step hb5 ?_ ?_) | (with_reducible refine bel_step hb6 ?_ ?_) | (with_reducible refine bel_step hb7 ?_ ?_) | (with_reducible refine bel_step hb8 ?_ ?_) | (with_reducible exact Nat.le_refl _) | (with_reducible assumption) | omega | (simp only [World.size_alloc, World.size_setCell, World.size_drew]; omega) | (simp; omega) | (simp; done)))⟩
end Go.Proofs.Ytggigndkamkclaa
