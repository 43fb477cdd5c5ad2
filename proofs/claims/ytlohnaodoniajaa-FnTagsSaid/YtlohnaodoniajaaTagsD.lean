/- TagFits, of the program and of the reference. -/
import Derived.Test.YtlohnaodoniajaaTagsC
namespace Go.Proofs.Ytlohnaodoniajaa
open Go.ChangeShapes Go.WideShapes Go.ChangeAt Go.RowKit
set_option linter.unusedVariables false

def fitsB (xs : List Int) (p : Int) : Bool := btw p 0 4095 && hasB xs (p % 512) && decide (xs.getD (p % 512).toNat 0 = p / 512)

set_option maxHeartbeats 1000000 in
theorem tagFits_i (A : Option Addr) (c : Nat) (xs : List Int) (p : Int) (w : World) {B : Nat} (hr : Rd w B A (iv xs)) (hn : xs.length ≤ 1048576) :
    Calls Try.prog 23 #[.agg #[.slice A xs.length c], .int .i64 p] w fun e w' => e = .returned (.bool (fitsB xs p)) ∧ Below w.heap.size w w' := by
  have HS := fun W => split_i p W
  cases h1 : btw p 0 4095 with
  | false =>
    have HR := Lib.hid (show fitsB xs p = false by simp [fitsB, h1])
    simp only [h1, if_false, Bool.false_eq_true] at HS
    replace HS := Lib.hid HS
    go_enter Try.func23, Try.ntmps23
    go_wp2_with (go_at_call 37; refine (HS.out _).mono ?_; rintro e w2 ⟨rfl, rfl⟩)
    go_ret
    exact ⟨by rw [HR.out]; rfl, by (repeat' (first | (with_reducible exact Below.refl _ _) | (with_reducible refine bel_alloc ?_ ?_ _) | (with_reducible refine Below.setCell ?_ ?_ _) | (with_reducible refine below_drewN ?_ _) | (with_reducible refine Below.drew ?_) | (with_reducible exact Nat.le_refl _) | (with_reducible assumption) | omega | (simp only [World.size_alloc, World.size_setCell, World.size_drew]; omega) | (simp; omega) | (simp; done)))⟩
  | true =>
    have hp := of_btw h1
    simp only [h1, if_true] at HS
    replace HS := Lib.hid HS
    cases h2 : hasB xs (p % 512) with
    | false =>
      have HR := Lib.hid (show fitsB xs p = false by simp [fitsB, h2])
      go_enter Try.func23, Try.ntmps23
      go_wp2_with (first | (go_at_call 37; refine (HS.out _).mono ?_; rintro e w2 ⟨rfl, rfl⟩) | (go_at_call 33; refine (hasTag_i _ _ _ _ _ (hr.alloc _) hn).mono ?_; rintro e w2 ⟨rfl, hb2⟩))
      go_ret
      exact ⟨by rw [HR.out]; rfl, by (repeat' (first | (with_reducible exact Below.refl _ _) | (with_reducible refine bel_alloc ?_ ?_ _) | (with_reducible refine Below.setCell ?_ ?_ _) | (with_reducible refine below_drewN ?_ _) | (with_reducible refine Below.drew ?_) | (with_reducible refine bel_step hb2 ?_ ?_) | (with_reducible exact Nat.le_refl _) | (with_reducible assumption) | omega | (simp only [World.size_alloc, World.size_setCell, World.size_drew]; omega) | (simp; omega) | (simp; done)))⟩
    | true =>
      obtain ⟨k, hke, hk, hx0, hx1, hl, -⟩ := hasB_yes h2
      obtain ⟨x, hx⟩ : ∃ x, x = xs[k] := ⟨_, rfl⟩
      obtain ⟨b, off, rfl, -, hcell⟩ := hr.int hk
      rw [← hx] at hcell hx0 hx1
      have h2' := h2
      rw [hke] at h2'
      have HR := Lib.hid (show fitsB xs p = decide (x = p / 512) by simp [fitsB, h1, h2', hke, hk, hx])
      clear h2'
      have hH := Lib.hid (fun W => hasTag_i (some ⟨b, off, none⟩) c xs (p % 512) W (B := B))
      rw [h2, hke] at hH
      rw [hke] at HS
      have HK := Lib.hid hke
      clear hx hke h2 h1
      have hk0 : (0 : Int) ≤ (k : Int) := by omega
      have hk1 : (k : Int) < (xs.length : Int) := by omega
      obtain ⟨q, hq⟩ : ∃ q, q = p / 512 := ⟨_, rfl⟩
      rw [← hq] at HS HR
      clear hq
      by_cases hxq : x = q
      all_goals
        first
        | have hb : (x == q) = true := by simp [hxq]
        | have hb : (x == q) = false := by simp [hxq]
        have HQ := Lib.hid (show decide (x = q) = (x == q) by rfl)
        clear hxq
        go_enter Try.func23, Try.ntmps23
        go_wp2_with fail
        refine (HS.out _).mono ?_
        rintro e w2 ⟨rfl, rfl⟩
        go_wp2_with fail
        refine (hH.out _ (hr.alloc _) hn).mono ?_
        rintro e w2 ⟨rfl, hb2⟩
        have c0 := keep hb2 (cell_al hcell _)
        have d0 : w2.cell? ⟨w.heap.size, 0, none⟩ = some (.slice (some ⟨b, off, none⟩) xs.length c) := keep hb2 (by simp [go_sem])
        go_wp2
        go_ret
        exact ⟨by rw [HR.out, HQ.out, hb]; rfl, by (repeat' (first | (with_reducible exact Below.refl _ _) | (with_reducible refine bel_alloc ?_ ?_ _) | (with_reducible refine Below.setCell ?_ ?_ _) | (with_reducible refine below_drewN ?_ _) | (with_reducible refine Below.drew ?_) | (with_reducible refine bel_step hb2 ?_ ?_) | (with_reducible exact Nat.le_refl _) | (with_reducible assumption) | omega | (simp only [World.size_alloc, World.size_setCell, World.size_drew]; omega) | (simp; omega) | (simp; done)))⟩
set_option maxHeartbeats 1000000 in
theorem tagFits_s (A : Option Addr) (c : Nat) (xs : List Int) (p : Int) (w : World) {B : Nat} (hr : Rd w B A (iv xs)) (hn : xs.length ≤ 1048576) :
    Calls Try.prog 24 #[.agg #[.slice A xs.length c], .int .i64 p] w fun e w' => e = .returned (.bool (fitsB xs p)) ∧ Below w.heap.size w w' := by
  have HS := fun W => split_s p W
  cases h1 : btw p 0 4095 with
  | false =>
    have HR := Lib.hid (show fitsB xs p = false by simp [fitsB, h1])
    simp only [h1, if_false, Bool.false_eq_true] at HS
    replace HS := Lib.hid HS
    go_enter Try.func24, Try.ntmps24
    go_wp2_with (go_at_call 38; refine (HS.out _).mono ?_; rintro e w2 ⟨rfl, rfl⟩)
    go_ret
    exact ⟨by rw [HR.out]; rfl, by (repeat' (first | (with_reducible exact Below.refl _ _) | (with_reducible refine bel_alloc ?_ ?_ _) | (with_reducible refine Below.setCell ?_ ?_ _) | (with_reducible refine below_drewN ?_ _) | (with_reducible refine Below.drew ?_) | (with_reducible exact Nat.le_refl _) | (with_reducible assumption) | omega | (simp only [World.size_alloc, World.size_setCell, World.size_drew]; omega) | (simp; omega) | (simp; done)))⟩
  | true =>
    have hp := of_btw h1
    simp only [h1, if_true] at HS
    obtain ⟨a, ha⟩ : ∃ a, a = p % 512 := ⟨_, rfl⟩
    have hap : 0 ≤ a ∧ a ≤ 511 := by omega
    rw [← ha] at HS
    replace HS := Lib.hid HS
    cases h2 : btw a 0 ((xs.length : Int) - 1) with
    | false =>
      have HR := Lib.hid (show fitsB xs p = false by simp [fitsB, hasB, ← ha, h2])
      clear ha
      go_enter Try.func24, Try.ntmps24
      go_wp2_with (first | (go_at_call 38; refine (HS.out _).mono ?_; rintro e w2 ⟨rfl, rfl⟩) | (go_at_call 26; refine (l01In_q _ _ _ _).mono ?_; rintro e w3 ⟨rfl, rfl⟩))
      go_ret
      exact ⟨by rw [HR.out]; rfl, by (repeat' (first | (with_reducible exact Below.refl _ _) | (with_reducible refine bel_alloc ?_ ?_ _) | (with_reducible refine Below.setCell ?_ ?_ _) | (with_reducible refine below_drewN ?_ _) | (with_reducible refine Below.drew ?_) | (with_reducible exact Nat.le_refl _) | (with_reducible assumption) | omega | (simp only [World.size_alloc, World.size_setCell, World.size_drew]; omega) | (simp; omega) | (simp; done)))⟩
    | true =>
      have HR := Lib.hid (show fitsB xs p = (ptrI xs a == p) by
        have hbt := of_btw h2
        cases h3 : hasB xs a with
        | false => simp [fitsB, ← ha, h3, ptrI]; omega
        | true =>
          obtain ⟨k, hke, hk, hx0, hx1, hl, -⟩ := hasB_yes h3
          rw [Bool.eq_iff_iff]
          simp [fitsB, ← ha, h3, ptrI, h1]
          omega)
      have HP := Lib.hid (fun W => pointerTo_s A c xs a W (B := B))
      obtain ⟨q, hq⟩ : ∃ q, q = ptrI xs a := ⟨_, rfl⟩
      rw [← hq] at HR HP
      clear ha hq
      cases hqp : (q == p)
      all_goals
        go_enter Try.func24, Try.ntmps24
        go_wp2_with (first | (go_at_call 38; refine (HS.out _).mono ?_; rintro e w2 ⟨rfl, rfl⟩) | (go_at_call 26; refine (l01In_q _ _ _ _).mono ?_; rintro e w3 ⟨rfl, rfl⟩) | (go_at_call 18; refine (HP.out _ (hr.alloc _) hn).mono ?_; rintro e w4 ⟨rfl, hb4⟩))
        go_ret
        exact ⟨by rw [HR.out, hqp]; rfl, by (repeat' (first | (with_reducible exact Below.refl _ _) | (with_reducible refine bel_alloc ?_ ?_ _) | (with_reducible refine Below.setCell ?_ ?_ _) | (with_reducible refine below_drewN ?_ _) | (with_reducible refine Below.drew ?_) | (with_reducible refine bel_step hb4 ?_ ?_) | (with_reducible exact Nat.le_refl _) | (with_reducible assumption) | omega | (simp only [World.size_alloc, World.size_setCell, World.size_drew]; omega) | (simp; omega) | (simp; done)))⟩
end Go.Proofs.Ytlohnaodoniajaa
