/- The walk of FnLastIn. -/
import Derived.Test.YtmfomflmbhognaaPlaces
import Derived.Test.YtmfomflmbhognaaCacheV2
namespace Go.Proofs.Ytmfomflmbhognaa
open Go.ChangeShapes Go.WideShapes Go.ChangeAt Go.RowKit
set_option linter.unusedVariables false
set_option linter.unusedSimpArgs false

set_option maxRecDepth 100000 in
set_option maxHeartbeats 8000000 in
theorem law_lastIn (A : Option Addr) (c : Nat) (bs : List Int) (w : World) (hr : Rd w w.heap.size A (bv bs)) (hbb : ∀ b ∈ bs, 0 ≤ b ∧ b ≤ 255) :
    Calls Try.prog 3 #[.slice A bs.length c] w fun e w' => e = .returned (.bool true) ∧ Below w.heap.size w w' := by
  by_cases hbig : (1048576 : Int) < bs.length
  · go_enter Try.func3, Try.ntmps3
    go_wp2_with (go_at_call 12; refine (big_any _ _ _ _).mono ?_; rintro e w1 ⟨rfl, rfl⟩)
    go_ret
    exact ⟨rfl, by (repeat' (first | (with_reducible exact Below.refl _ _) | (with_reducible refine bel_alloc ?_ ?_ _) | (with_reducible refine Below.setCell ?_ ?_ _) | (with_reducible refine below_drewN ?_ _) | (with_reducible refine Below.drew ?_) | (with_reducible exact Nat.le_refl _) | (with_reducible assumption) | omega | (simp only [World.size_alloc, World.size_setCell, World.size_drew]; omega) | (simp; omega) | (simp; done)))⟩
  · have hb : Bytes bs := ⟨by omega, hbb⟩
    go_enter Try.func3, Try.ntmps3
    go_wp2_with (go_at_call 12; refine (big_any _ _ _ _).mono ?_; rintro e w ⟨rfl, rfl⟩)
    refine (places_any _ A c bs _ hb hr (Nat.le_refl _)).mono ?_
    rintro e w1 ⟨A1, c1, xs, rfl, hp, ho, hb1⟩
    obtain ⟨g, rfl, hg1, hg2, P, hP, hcell⟩ := places_at ho hp
    have q0 := hcell 0 (by omega)
    have hp0 := hP 0 (by omega)
    obtain ⟨p0, hp0e⟩ : ∃ p0, p0 = P 0 := ⟨_, rfl⟩
    rw [← hp0e] at q0 hp0
    clear hp0e hcell hP ho hp
    obtain ⟨κ, hκ, hm0⟩ : ∃ κ : Nat, κ < 4 ∧ p0.tmod 4 = κ := by
      rw [Int.tmod_eq_emod_of_nonneg hp0.1]
      exact ⟨(p0 % 4).toNat, by omega, by omega⟩
    have hκi : (κ : Int) < 4 := by omega
    go_wp2_with fail
    refine (one_new _).mono ?_
    rintro e w2 ⟨A2, c2, S2, rfl, hW2, hN2, hb2⟩
    have hz2 := hb2.size
    rw [← one_zero κ] at hW2
    have hS2 : ∀ b, S2 b → b ≠ w2.heap.size := fun b hb => by have := (hN2 b hb).2; omega
    have hbw2 : Below w.heap.size w w2 := by (repeat' (first | (with_reducible exact Below.refl _ _) | (with_reducible refine bel_alloc ?_ ?_ _) | (with_reducible refine Below.setCell ?_ ?_ _) | (with_reducible refine below_drewN ?_ _) | (with_reducible refine Below.drew ?_) | (with_reducible refine bel_step hb1 ?_ ?_) | (with_reducible refine bel_step hb2 ?_ ?_) | (with_reducible exact Nat.le_refl _) | (with_reducible assumption) | omega | (simp only [World.size_alloc, World.size_setCell, World.size_drew]; omega) | (simp; omega) | (simp; done)))
    clear hN2 q0 hm0 hp0
    go_wp2
    go_loopw [6] (fun v wr => ∃ (i : Nat) (A : Option Addr) (c : Nat) (S : Nat → Prop), i ≤ 8 ∧ v = .int .i64 i ∧ Cl wr ⟨w2.heap.size, 0, none⟩ (.slice A 4 c) ∧ Wr2 iv wr S A (one κ i) ∧ (∀ b, S b → b ≠ w2.heap.size) ∧ w2.heap.size < wr.heap.size ∧ Below w.heap.size w wr) (fun v _ => 8 - (intOf v).toNat)
    case atStart => exact ⟨0, A2, c2, S2, by omega, rfl, by constructor <;> simp [go_sem], hW2.alloc _, hS2, by simp, by (repeat' (first | (with_reducible exact Below.refl _ _) | (with_reducible refine bel_alloc ?_ ?_ _) | (with_reducible refine Below.setCell ?_ ?_ _) | (with_reducible refine below_drewN ?_ _) | (with_reducible refine Below.drew ?_) | (with_reducible refine bel_step hbw2 ?_ ?_) | (with_reducible exact Nat.le_refl _) | (with_reducible assumption) | omega | (simp only [World.size_alloc, World.size_setCell, World.size_drew]; omega) | (simp; omega) | (simp; done)))⟩
    case round =>
      obtain ⟨i, A3, c3, S3, hi, rfl, hcl, hW, hS, hsz, hbr⟩ := hrel
      have hc := hcl.1
      have hf := hcl.2
      by_cases hlt : i < 8
      · have hi8 : (i : Int) < 8 := by omega
        have i0 : (0 : Int) ≤ (i : Int) := by omega
        go_wp2_with fail
        refine (one_put hκ hlt _ _ _ hW.rd).mono ?_
        rintro e w3 ⟨A4, c4, S4, rfl, hW4, hN4, hb4⟩
        have hz4 := hb4.size
        have hcl4 := hcl.below hb4
        have hS4 : ∀ b, S4 b → b ≠ w2.heap.size := fun b hb => by have := (hN4 b hb).1; omega
        clear hc hf
        have hc4 := hcl4.1
        have hf4 := hcl4.2
        have lc4 := lt_of_cell' hc4
        go_wp2
        go_roundw
        case rel => exact ⟨i + 1, A4, c4, S4, by omega, by go_num, by first | exact (hcl4.alloc _).same _ | exact (hcl4.same _).alloc _, by (repeat' (first | (with_reducible exact hW4) | (with_reducible refine Wr2.setOut ?_ _ (fun h => by have := hS4 _ h; first | omega | (simp at this; omega))) | (with_reducible refine Wr2.alloc ?_ _) | (with_reducible refine Wr2.drewN ?_ _) | (with_reducible refine Wr2.drew ?_))), hS4, by simp <;> omega, by (repeat' (first | (with_reducible exact Below.refl _ _) | (with_reducible refine bel_alloc ?_ ?_ _) | (with_reducible refine Below.setCell ?_ ?_ _) | (with_reducible refine below_drewN ?_ _) | (with_reducible refine Below.drew ?_) | (with_reducible refine bel_step hb4 ?_ ?_) | (with_reducible refine bel_step hbr ?_ ?_) | (with_reducible exact Nat.le_refl _) | (with_reducible assumption) | omega | (simp only [World.size_alloc, World.size_setCell, World.size_drew]; omega) | (simp; omega) | (simp; done)))⟩
        case measure => simp [intOf]; omega
      · obtain rfl : i = 8 := by omega
        go_wp2_with fail
        refine (one_full hκ _ _ _ hW.rd).mono ?_
        rintro e w3 ⟨A4, c4, S4, rfl, hW4, hN4, hb4⟩
        have hz4 := hb4.size
        have hcl4 := hcl.below hb4
        have hWk := hW.below hb4
        clear hc hf hN4 hW4
        have hc4 := hcl4.1
        have hf4 := hcl4.2
        have lc4 := lt_of_cell' hc4
        go_wp2
        go_loopw [11] (fun v wx => ∃ (j : Nat) (A : Option Addr) (c : Nat) (S : Nat → Prop), j ≤ 8 ∧ v = .int .i64 ((j : Int) - 1) ∧ Cl wx ⟨w2.heap.size, 0, none⟩ (.slice A 4 c) ∧ Wr2 iv wx S A (one κ j) ∧ (∀ b, S b → b ≠ w2.heap.size) ∧ w2.heap.size < wx.heap.size ∧ Below w.heap.size w wx) (fun v _ => ((intOf v) + 1).toNat)
        case atStart => exact ⟨8, A3, c3, S3, by omega, rfl, hcl4.alloc _, hWk.alloc _, hS, by simp <;> omega, by (repeat' (first | (with_reducible exact Below.refl _ _) | (with_reducible refine bel_alloc ?_ ?_ _) | (with_reducible refine Below.setCell ?_ ?_ _) | (with_reducible refine below_drewN ?_ _) | (with_reducible refine Below.drew ?_) | (with_reducible refine bel_step hb4 ?_ ?_) | (with_reducible refine bel_step hbr ?_ ?_) | (with_reducible exact Nat.le_refl _) | (with_reducible assumption) | omega | (simp only [World.size_alloc, World.size_setCell, World.size_drew]; omega) | (simp; omega) | (simp; done)))⟩
        case round =>
          obtain ⟨j, A5, c5, S5, hj, hv, hcl5, hW5, hS5, hsz5, hbx⟩ := hrel
          have hc5 := hcl5.1
          have hf5 := hcl5.2
          clear hc4 hf4 hcl4 hWk
          rcases j with _ | i
          · subst hv
            go_wp2_with fail
            refine (one_cells hκ _ _ _ hW5.rd).mono ?_
            rintro e w6 ⟨rfl, hb6⟩
            go_wp2
            go_ret
            exact ⟨rfl, by (repeat' (first | (with_reducible exact Below.refl _ _) | (with_reducible refine bel_alloc ?_ ?_ _) | (with_reducible refine Below.setCell ?_ ?_ _) | (with_reducible refine below_drewN ?_ _) | (with_reducible refine Below.drew ?_) | (with_reducible refine bel_step hb6 ?_ ?_) | (with_reducible refine bel_step hbx ?_ ?_) | (with_reducible exact Nat.le_refl _) | (with_reducible assumption) | omega | (simp only [World.size_alloc, World.size_setCell, World.size_drew]; omega) | (simp; omega) | (simp; done)))⟩
          · rw [show (((i + 1 : Nat) : Int) - 1) = (i : Int) by omega] at hv
            subst hv
            have hlt8 : i < 8 := by omega
            have i0 : (0 : Int) ≤ (i : Int) := by omega
            have i8 : (i : Int) < 8 := by omega
            have i9 : ((8 * (i : Int)) != (8 * (i : Int))) = false := by simp
            go_wp2_with fail
            refine (one_take hκ hlt8 _ _ _ hW5.rd).mono ?_
            rintro e w6 ⟨A6, c6, S6, rfl, hW6, hN6, hb6⟩
            have hz6 := hb6.size
            have hcl6 := hcl5.below hb6
            have hS6 : ∀ b, S6 b → b ≠ w2.heap.size := fun b hb => by have := (hN6 b hb).1; omega
            clear hc5 hf5
            have hc6 := hcl6.1
            have hf6 := hcl6.2
            have lc6 := lt_of_cell' hc6
            go_wp2
            go_roundw
            case rel => exact ⟨i, A6, c6, S6, by omega, by go_num, by first | exact (hcl6.alloc _).same _ | exact (hcl6.same _).alloc _, by (repeat' (first | (with_reducible exact hW6) | (with_reducible refine Wr2.setOut ?_ _ (fun h => by have := hS6 _ h; first | omega | (simp at this; omega))) | (with_reducible refine Wr2.alloc ?_ _) | (with_reducible refine Wr2.drewN ?_ _) | (with_reducible refine Wr2.drew ?_))), hS6, by simp <;> omega, by (repeat' (first | (with_reducible exact Below.refl _ _) | (with_reducible refine bel_alloc ?_ ?_ _) | (with_reducible refine Below.setCell ?_ ?_ _) | (with_reducible refine below_drewN ?_ _) | (with_reducible refine Below.drew ?_) | (with_reducible refine bel_step hb6 ?_ ?_) | (with_reducible refine bel_step hbx ?_ ?_) | (with_reducible exact Nat.le_refl _) | (with_reducible assumption) | omega | (simp only [World.size_alloc, World.size_setCell, World.size_drew]; omega) | (simp; omega) | (simp; done)))⟩
            case measure => (simp [intOf]); try omega
end Go.Proofs.Ytmfomflmbhognaa
