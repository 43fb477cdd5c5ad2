/- The walks of FnPointers, FnInterior. -/
import Derived.Test.YtoidaeehdekaoaaPlaces
import Derived.Test.YtoidaeehdekaoaaSplitC
import Derived.Test.YtoidaeehdekaoaaLargeC
namespace Go.Proofs.Ytoidaeehdekaoaa
open Go.ChangeShapes Go.WideShapes Go.ChangeAt Go.RowKit
set_option linter.unusedVariables false

set_option maxHeartbeats 4000000 in
theorem law_pointers (A : Option Addr) (c : Nat) (bs : List Int) (w : World) (hr : Rd w w.heap.size A (bv bs)) (hbb : ∀ b ∈ bs, 0 ≤ b ∧ b ≤ 255) :
    Calls Try.prog 6 #[.slice A bs.length c] w fun e w' => e = .returned (.bool true) ∧ Below w.heap.size w w' := by
  by_cases hbig : (1048576 : Int) < bs.length
  · go_enter Try.func6, Try.ntmps6
    go_wp2_with (go_at_call 19; refine (big_any _ _ _ _).mono ?_; rintro e w1 ⟨rfl, rfl⟩)
    go_ret
    exact ⟨rfl, by (repeat' (first | (with_reducible exact Below.refl _ _) | (with_reducible refine bel_alloc ?_ ?_ _) | (with_reducible refine Below.setCell ?_ ?_ _) | (with_reducible refine below_drewN ?_ _) | (with_reducible refine Below.drew ?_) | (with_reducible exact Nat.le_refl _) | (with_reducible assumption) | omega | (simp only [World.size_alloc, World.size_setCell, World.size_drew]; omega) | (simp; omega) | (simp; done)))⟩
  · have hb : Bytes bs := ⟨by omega, hbb⟩
    go_enter Try.func6, Try.ntmps6
    go_wp2_with (go_at_call 19; refine (big_any _ _ _ _).mono ?_; rintro e w1 ⟨rfl, rfl⟩)
    refine (places_any _ A c bs _ hb hr (Nat.le_refl _)).mono ?_
    rintro e w1 ⟨A1, c1, xs, rfl, hp, ho, hb1⟩
    obtain ⟨g, rfl, hg1, hg2, P, hP, hcell⟩ := places_at ho hp
    have q0 := hcell 0 (by omega)
    have hp0 := hP 0 (by omega)
    obtain ⟨p0, hp0e⟩ : ∃ p0, p0 = P 0 := ⟨_, rfl⟩
    rw [← hp0e] at q0 hp0
    clear hp0e hcell hP
    have hx : 0 ≤ p0 % 4096 ∧ p0 % 4096 ≤ 4095 := by omega
    have H1 := fun W => split_i (p0 % 4096) W
    simp only [btw_t hx.1 hx.2, if_true] at H1
    replace H1 := Lib.hid H1
    have H2 := fun W => split_i 4096 W
    simp only [btw_f (show ¬ (0 ≤ (4096 : Int) ∧ (4096 : Int) ≤ 4095) by omega), if_false, Bool.false_eq_true] at H2
    replace H2 := Lib.hid H2
    obtain ⟨a, ha⟩ : ∃ a, a = p0 % 4096 % 512 := ⟨_, rfl⟩
    obtain ⟨t, ht⟩ : ∃ t, t = p0 % 4096 / 512 := ⟨_, rfl⟩
    rw [← ha, ← ht] at H1
    have h3 : 0 ≤ a ∧ a < 512 ∧ 0 ≤ t ∧ t < 8 := by omega
    have h4 : (a + t * 32 * 16 == p0 % 4096) = true := by simp; omega
    clear ha ht
    go_wp2_with fail
    refine (H1.out _).mono ?_
    rintro e w2 ⟨rfl, rfl⟩
    go_wp2_with fail
    refine (H2.out _).mono ?_
    rintro e w3 ⟨rfl, rfl⟩
    go_wp2
    go_ret
    exact ⟨rfl, by (repeat' (first | (with_reducible exact Below.refl _ _) | (with_reducible refine bel_alloc ?_ ?_ _) | (with_reducible refine Below.setCell ?_ ?_ _) | (with_reducible refine below_drewN ?_ _) | (with_reducible refine Below.drew ?_) | (with_reducible refine bel_step hb1 ?_ ?_) | (with_reducible exact Nat.le_refl _) | (with_reducible assumption) | omega | (simp only [World.size_alloc, World.size_setCell, World.size_drew]; omega) | (simp; omega) | (simp; done)))⟩

set_option maxHeartbeats 4000000 in
theorem law_interior (A : Option Addr) (c : Nat) (bs : List Int) (w : World) (hr : Rd w w.heap.size A (bv bs)) (hbb : ∀ b ∈ bs, 0 ≤ b ∧ b ≤ 255) :
    Calls Try.prog 9 #[.slice A bs.length c] w fun e w' => e = .returned (.bool true) ∧ Below w.heap.size w w' := by
  by_cases hbig : (1048576 : Int) < bs.length
  · go_enter Try.func9, Try.ntmps9
    go_wp2_with (go_at_call 19; refine (big_any _ _ _ _).mono ?_; rintro e w1 ⟨rfl, rfl⟩)
    go_ret
    exact ⟨rfl, by (repeat' (first | (with_reducible exact Below.refl _ _) | (with_reducible refine bel_alloc ?_ ?_ _) | (with_reducible refine Below.setCell ?_ ?_ _) | (with_reducible refine below_drewN ?_ _) | (with_reducible refine Below.drew ?_) | (with_reducible exact Nat.le_refl _) | (with_reducible assumption) | omega | (simp only [World.size_alloc, World.size_setCell, World.size_drew]; omega) | (simp; omega) | (simp; done)))⟩
  · have hb : Bytes bs := ⟨by omega, hbb⟩
    go_enter Try.func9, Try.ntmps9
    go_wp2_with (go_at_call 19; refine (big_any _ _ _ _).mono ?_; rintro e w1 ⟨rfl, rfl⟩)
    refine (places_any _ A c bs _ hb hr (Nat.le_refl _)).mono ?_
    rintro e w1 ⟨A1, c1, xs, rfl, hp, ho, hb1⟩
    obtain ⟨g, rfl, hg1, hg2, P, hP, hcell⟩ := places_at ho hp
    have q0 := hcell 0 (by omega)
    have q1 := hcell 1 (by omega)
    have q2 := hcell 2 (by omega)
    have hp0 := hP 0 (by omega)
    have hp1 := hP 1 (by omega)
    have hp2 := hP 2 (by omega)
    obtain ⟨p0, hp0e⟩ : ∃ p0, p0 = P 0 := ⟨_, rfl⟩
    obtain ⟨p1, hp1e⟩ : ∃ p1, p1 = P 1 := ⟨_, rfl⟩
    obtain ⟨p2, hp2e⟩ : ∃ p2, p2 = P 2 := ⟨_, rfl⟩
    rw [← hp0e] at q0 hp0
    rw [← hp1e] at q1 hp1
    rw [← hp2e] at q2 hp2
    clear hp0e hp1e hp2e hcell hP
    have hSb : 9 ≤ 9 + p0 % 80 ∧ 9 + p0 % 80 ≤ 88 := by omega
    have hPb : 0 ≤ p1 % 10 ∧ p1 % 10 ≤ 9 := by omega
    go_wp2_with fail
    generalize 9 + p0 % 80 = S at *
    generalize p1 % 10 = Pg at *
    have hN := pagesFor_in (S := S) (by omega) (by omega)
    have hk : lOk Pg (pagesFor S) S = true := by simp [lOk, hN]; omega
    refine (largeNew_i_yes Pg S _ hk).mono ?_
    rintro e w2 ⟨rfl, hb2⟩
    have hNb : 1 ≤ pagesFor S ∧ pagesFor S ≤ 6 := by omega
    generalize hNe : pagesFor S = N at *
    clear hN
    have q2 := keep hb2 q2
    have hgl := lt_of_cell' q2
    have hK : 0 ≤ p2 % S ∧ p2 % S < S := ⟨Int.emod_nonneg _ (by omega), Int.emod_lt_of_pos _ (by omega)⟩
    have e1 : lHas Pg N S (16 * Pg + p2 % S) = true := by simp [lHas, hk]; omega
    have e2 : lOff Pg N S (16 * Pg + p2 % S) = p2 % S := by simp [lOff, e1]; omega
    have e3 : lHas Pg N S (16 * Pg + S) = false := by simp [lHas, hk]
    have e4 : lOff Pg N S (16 * Pg - 1) = -1 := by
      have : lHas Pg N S (16 * Pg - 1) = false := by simp [lHas, hk]; omega
      simp [lOff, this]
    have C1 := Lib.hid (fun W => largeHas_i Pg N S (16 * Pg + p2 % S) W)
    have C2 := Lib.hid (fun W => largeOffset_i Pg N S (16 * Pg + p2 % S) W)
    have C3 := Lib.hid (fun W => largeHas_i Pg N S (16 * Pg + S) W)
    have C4 := Lib.hid (fun W => largeOffset_i Pg N S (16 * Pg - 1) W)
    rw [e1] at C1
    rw [e2] at C2
    rw [e3] at C3
    rw [e4] at C4
    clear e1 e2 e3 e4 hk hNe
    go_wp2_with fail
    refine (C1.out _).mono ?_
    rintro e w3 ⟨rfl, hb3⟩
    have b0 : w3.cell? ⟨w2.heap.size, 0, none⟩ = some (.int .i64 Pg) := keep hb3 (by simp [go_sem])
    have b1 : w3.cell? ⟨w2.heap.size, 1, none⟩ = some (.int .i64 N) := keep hb3 (by simp [go_sem])
    have b2 : w3.cell? ⟨w2.heap.size, 2, none⟩ = some (.int .i64 S) := keep hb3 (by simp [go_sem])
    go_wp2_with fail
    refine (C2.out _).mono ?_
    rintro e w4 ⟨rfl, hb4⟩
    have b0 := keep hb4 b0
    have b1 := keep hb4 b1
    have b2 := keep hb4 b2
    go_wp2_with fail
    refine (C3.out _).mono ?_
    rintro e w5 ⟨rfl, hb5⟩
    have b0 := keep hb5 b0
    have b1 := keep hb5 b1
    have b2 := keep hb5 b2
    go_wp2_with fail
    refine (C4.out _).mono ?_
    rintro e w6 ⟨rfl, hb6⟩
    go_wp2
    go_ret
    exact ⟨rfl, by (repeat' (first | (with_reducible exact Below.refl _ _) | (with_reducible refine bel_alloc ?_ ?_ _) | (with_reducible refine Below.setCell ?_ ?_ _) | (with_reducible refine below_drewN ?_ _) | (with_reducible refine Below.drew ?_) | (with_reducible refine bel_step hb1 ?_ ?_) | (with_reducible refine bel_step hb2 ?_ ?_) | (with_reducible refine bel_step hb3 ?_ ?_) | (with_reducible refine bel_step hb4 ?_ ?_) | (with_reducible refine bel_step hb5 ?_ ?_) | (with_reducible refine bel_step hb6 ?_ ?_) | (with_reducible exact Nat.le_refl _) | (with_reducible assumption) | omega | (simp only [World.size_alloc, World.size_setCell, World.size_drew]; omega) | (simp; omega) | (simp; done)))⟩
end Go.Proofs.Ytoidaeehdekaoaa
