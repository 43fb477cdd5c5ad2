/- hasTag, PointerTo, TagFits, of the program and of the reference. -/
import Derived.Test.YtlohnaodoniajaaTagsB
import Derived.Test.YtlohnaodoniajaaSplitC
namespace Go.Proofs.Ytlohnaodoniajaa
open Go.ChangeShapes Go.WideShapes Go.ChangeAt Go.RowKit
set_option linter.unusedVariables false

def hasB (xs : List Int) (a : Int) : Bool := btw a 0 ((xs.length : Int) - 1) && tOkB xs
theorem hasB_yes {xs : List Int} {a : Int} (h : hasB xs a = true) : ∃ k : Nat, a = k ∧ ∃ (hk : k < xs.length), 0 ≤ xs[k] ∧ xs[k] ≤ 7 ∧ xs.length ≤ 512 ∧ tOkB xs = true := by
  simp only [hasB, Bool.and_eq_true] at h
  have h1 := of_btw h.1
  obtain ⟨k, rfl⟩ := Int.eq_ofNat_of_zero_le h1.1
  have hk : k < xs.length := by omega
  have h2 := h.2
  simp only [tOkB, Bool.and_eq_true, List.all_eq_true] at h2
  have h3 := of_btw (h2.1 xs[k] (List.getElem_mem hk))
  have h4 := of_btw h2.2
  exact ⟨k, rfl, hk, h3.1, h3.2, by omega, h.2⟩
def ptrI (xs : List Int) (a : Int) : Int := if hasB xs a = true then a + 512 * xs.getD a.toNat 0 else -1

set_option maxHeartbeats 1000000 in
theorem hasTag_i (A : Option Addr) (c : Nat) (xs : List Int) (a : Int) (w : World) {B : Nat} (hr : Rd w B A (iv xs)) (hn : xs.length ≤ 1048576) :
    Calls Try.prog 33 #[.agg #[.slice A xs.length c], .int .i64 a] w fun e w' => e = .returned (.bool (hasB xs a)) ∧ Below w.heap.size w w' := by
  cases hb : btw a 0 ((xs.length : Int) - 1) with
  | false =>
    have HR := Lib.hid (show hasB xs a = false by simp [hasB, hb])
    go_enter Try.func33, Try.ntmps33
    go_wp2_with (go_at_call 27; refine (between_q _ _ _ _).mono ?_; rintro e w2 ⟨rfl, rfl⟩)
    go_ret
    exact ⟨by rw [HR.out]; rfl, by (repeat' (first | (with_reducible exact Below.refl _ _) | (with_reducible refine bel_alloc ?_ ?_ _) | (with_reducible refine Below.setCell ?_ ?_ _) | (with_reducible refine below_drewN ?_ _) | (with_reducible refine Below.drew ?_) | (with_reducible exact Nat.le_refl _) | (with_reducible assumption) | omega | (simp only [World.size_alloc, World.size_setCell, World.size_drew]; omega) | (simp; omega) | (simp; done)))⟩
  | true =>
    have HR := Lib.hid (show hasB xs a = tOkB xs by simp [hasB, hb])
    go_enter Try.func33, Try.ntmps33
    go_wp2_with (first | (go_at_call 27; refine (between_q _ _ _ _).mono ?_; rintro e w2 ⟨rfl, rfl⟩) | (go_at_call 17; refine (tagsOk_i _ _ _ _ (hr.alloc _) hn).mono ?_; rintro e w3 ⟨rfl, hb3⟩))
    go_ret
    exact ⟨by rw [HR.out]; rfl, by (repeat' (first | (with_reducible exact Below.refl _ _) | (with_reducible refine bel_alloc ?_ ?_ _) | (with_reducible refine Below.setCell ?_ ?_ _) | (with_reducible refine below_drewN ?_ _) | (with_reducible refine Below.drew ?_) | (with_reducible refine bel_step hb3 ?_ ?_) | (with_reducible exact Nat.le_refl _) | (with_reducible assumption) | omega | (simp only [World.size_alloc, World.size_setCell, World.size_drew]; omega) | (simp; omega) | (simp; done)))⟩

set_option maxHeartbeats 1000000 in
theorem pointerTo_i (A : Option Addr) (c : Nat) (xs : List Int) (a : Int) (w : World) {B : Nat} (hr : Rd w B A (iv xs)) (hn : xs.length ≤ 1048576) :
    Calls Try.prog 19 #[.agg #[.slice A xs.length c], .int .i64 a] w fun e w' => e = .returned (.int .i64 (ptrI xs a)) ∧ Below w.heap.size w w' := by
  cases hb : hasB xs a with
  | false =>
    have HR := Lib.hid (show ptrI xs a = -1 by simp [ptrI, hb])
    go_enter Try.func19, Try.ntmps19
    go_wp2_with (go_at_call 33; refine (hasTag_i _ _ _ _ _ (hr.alloc _) hn).mono ?_; rintro e w2 ⟨rfl, hb2⟩)
    go_ret
    exact ⟨by rw [HR.out]; rfl, by (repeat' (first | (with_reducible exact Below.refl _ _) | (with_reducible refine bel_alloc ?_ ?_ _) | (with_reducible refine Below.setCell ?_ ?_ _) | (with_reducible refine below_drewN ?_ _) | (with_reducible refine Below.drew ?_) | (with_reducible refine bel_step hb2 ?_ ?_) | (with_reducible exact Nat.le_refl _) | (with_reducible assumption) | omega | (simp only [World.size_alloc, World.size_setCell, World.size_drew]; omega) | (simp; omega) | (simp; done)))⟩
  | true =>
    obtain ⟨k, rfl, hk, hx0, hx1, hl, -⟩ := hasB_yes hb
    obtain ⟨x, hx⟩ : ∃ x, x = xs[k] := ⟨_, rfl⟩
    obtain ⟨b, off, rfl, -, hcell⟩ := hr.int hk
    rw [← hx] at hcell hx0 hx1
    have HR := Lib.hid (show ptrI xs k = k + 512 * x by rw [ptrI, if_pos hb, hx]; simp [hk])
    clear hx
    go_enter Try.func19, Try.ntmps19
    go_wp2_with fail
    refine (hasTag_i _ _ _ _ _ (hr.alloc _) hn).mono ?_
    rintro e w2 ⟨rfl, hb2⟩
    have c0 := keep hb2 (cell_al hcell _)
    have d0 : w2.cell? ⟨w.heap.size, 0, none⟩ = some (.slice (some ⟨b, off, none⟩) xs.length c) := keep hb2 (by simp [go_sem])
    go_wp2
    go_ret
    exact ⟨by rw [HR.out]; rfl, by (repeat' (first | (with_reducible exact Below.refl _ _) | (with_reducible refine bel_alloc ?_ ?_ _) | (with_reducible refine Below.setCell ?_ ?_ _) | (with_reducible refine below_drewN ?_ _) | (with_reducible refine Below.drew ?_) | (with_reducible refine bel_step hb2 ?_ ?_) | (with_reducible exact Nat.le_refl _) | (with_reducible assumption) | omega | (simp only [World.size_alloc, World.size_setCell, World.size_drew]; omega) | (simp; omega) | (simp; done)))⟩
set_option maxHeartbeats 1000000 in
theorem pointerTo_s (A : Option Addr) (c : Nat) (xs : List Int) (a : Int) (w : World) {B : Nat} (hr : Rd w B A (iv xs)) (hn : xs.length ≤ 1048576) :
    Calls Try.prog 18 #[.agg #[.slice A xs.length c], .int .i64 a] w fun e w' => e = .returned (.int .i64 (ptrI xs a)) ∧ Below w.heap.size w w' := by
  cases hb1 : tOkB xs with
  | false =>
    have HR := Lib.hid (show ptrI xs a = -1 by simp [ptrI, hasB, hb1])
    go_enter Try.func18, Try.ntmps18
    go_wp2_with (go_at_call 15; refine (tagsOk_s _ _ _ _ (hr.alloc _) hn).mono ?_; rintro e w2 ⟨rfl, hb2⟩)
    go_ret
    exact ⟨by rw [HR.out]; rfl, by (repeat' (first | (with_reducible exact Below.refl _ _) | (with_reducible refine bel_alloc ?_ ?_ _) | (with_reducible refine Below.setCell ?_ ?_ _) | (with_reducible refine below_drewN ?_ _) | (with_reducible refine Below.drew ?_) | (with_reducible refine bel_step hb2 ?_ ?_) | (with_reducible exact Nat.le_refl _) | (with_reducible assumption) | omega | (simp only [World.size_alloc, World.size_setCell, World.size_drew]; omega) | (simp; omega) | (simp; done)))⟩
  | true =>
    cases hb : btw a 0 ((xs.length : Int) - 1) with
    | false =>
      have HR := Lib.hid (show ptrI xs a = -1 by simp [ptrI, hasB, hb])
      go_enter Try.func18, Try.ntmps18
      go_wp2_with fail
      refine (tagsOk_s _ _ _ _ (hr.alloc _) hn).mono ?_
      rintro e w2 ⟨rfl, hb2⟩
      have d0 : w2.cell? ⟨w.heap.size, 0, none⟩ = some (.slice A xs.length c) := keep hb2 (by simp [go_sem])
      go_wp2_with (go_at_call 26; refine (l01In_q _ _ _ _).mono ?_; rintro e w3 ⟨rfl, rfl⟩)
      go_ret
      exact ⟨by rw [HR.out]; rfl, by (repeat' (first | (with_reducible exact Below.refl _ _) | (with_reducible refine bel_alloc ?_ ?_ _) | (with_reducible refine Below.setCell ?_ ?_ _) | (with_reducible refine below_drewN ?_ _) | (with_reducible refine Below.drew ?_) | (with_reducible refine bel_step hb2 ?_ ?_) | (with_reducible exact Nat.le_refl _) | (with_reducible assumption) | omega | (simp only [World.size_alloc, World.size_setCell, World.size_drew]; omega) | (simp; omega) | (simp; done)))⟩
    | true =>
      have hh : hasB xs a = true := by simp [hasB, hb, hb1]
      obtain ⟨k, rfl, hk, hx0, hx1, hl, -⟩ := hasB_yes hh
      obtain ⟨x, hx⟩ : ∃ x, x = xs[k] := ⟨_, rfl⟩
      obtain ⟨b, off, rfl, -, hcell⟩ := hr.int hk
      rw [← hx] at hcell hx0 hx1
      have HR := Lib.hid (show ptrI xs k = k + 512 * x by rw [ptrI, if_pos hh, hx]; simp [hk])
      clear hx
      go_enter Try.func18, Try.ntmps18
      go_wp2_with fail
      refine (tagsOk_s _ _ _ _ (hr.alloc _) hn).mono ?_
      rintro e w2 ⟨rfl, hb2⟩
      have c0 := keep hb2 (cell_al hcell _)
      have d0 : w2.cell? ⟨w.heap.size, 0, none⟩ = some (.slice (some ⟨b, off, none⟩) xs.length c) := keep hb2 (by simp [go_sem])
      go_wp2_with (go_at_call 26; refine (l01In_q _ _ _ _).mono ?_; rintro e w3 ⟨rfl, rfl⟩)
      go_ret
      exact ⟨by rw [HR.out]; rfl, by (repeat' (first | (with_reducible exact Below.refl _ _) | (with_reducible refine bel_alloc ?_ ?_ _) | (with_reducible refine Below.setCell ?_ ?_ _) | (with_reducible refine below_drewN ?_ _) | (with_reducible refine Below.drew ?_) | (with_reducible refine bel_step hb2 ?_ ?_) | (with_reducible exact Nat.le_refl _) | (with_reducible assumption) | omega | (simp only [World.size_alloc, World.size_setCell, World.size_drew]; omega) | (simp; omega) | (simp; done)))⟩
end Go.Proofs.Ytlohnaodoniajaa
