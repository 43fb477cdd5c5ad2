/- TagsOk, of the program and of the reference. -/
import Derived.Test.YtlohnaodoniajaaTagsA
import Derived.Test.YtlohnaodoniajaaNum
namespace Go.Proofs.Ytlohnaodoniajaa
open Go.ChangeShapes Go.WideShapes Go.ChangeAt Go.RowKit
set_option linter.unusedVariables false

def tOkB (xs : List Int) : Bool := xs.all (fun x => btw x 0 7) && btw xs.length 1 512
theorem tOkB_bad {xs : List Int} {k : Nat} (hk : k < xs.length) (h : btw xs[k] 0 7 = false) : tOkB xs = false := by
  have : xs.all (fun x => btw x 0 7) = false := by
    rw [List.all_eq_false]
    exact ⟨xs[k], List.getElem_mem hk, by simp [h]⟩
  simp [tOkB, this]
theorem tOkB_all {xs : List Int} (h : ∀ j (hj : j < xs.length), btw xs[j] 0 7 = true) : tOkB xs = btw xs.length 1 512 := by
  have : xs.all (fun x => btw x 0 7) = true := by
    rw [List.all_eq_true]
    intro x hx
    obtain ⟨j, hj, rfl⟩ := List.getElem_of_mem hx
    exact h j hj
  simp [tOkB, this]

set_option maxHeartbeats 1000000 in
theorem tagsOk_i (A : Option Addr) (c : Nat) (xs : List Int) (w : World) {B : Nat} (hr : Rd w B A (iv xs)) (hn : xs.length ≤ 1048576) :
    Calls Try.prog 17 #[.agg #[.slice A xs.length c]] w fun e w' => e = .returned (.bool (tOkB xs)) ∧ Below w.heap.size w w' := by
  go_enter Try.func17, Try.ntmps17
  go_wp2
  go_loop [8] (fun v => ∃ k : Nat, k ≤ xs.length ∧ v = .int .i64 k ∧ ∀ j (hj : j < xs.length), j < k → btw xs[j] 0 7 = true) (fun v => xs.length - (intOf v).toNat)
  case atStart => exact ⟨0, Nat.zero_le _, rfl, fun j _ hj => absurd hj (by omega)⟩
  case round =>
    obtain ⟨k, hk, rfl, hall⟩ := hrel
    have HA := Lib.hid hall
    clear hall
    by_cases hlt : k < xs.length
    · obtain ⟨b, off, rfl, -, hcell⟩ := hr.int hlt
      have hbw := lt_of_cell' hcell
      obtain ⟨x, hx⟩ : ∃ x, x = xs[k] := ⟨_, rfl⟩
      rw [← hx] at hcell
      have HX := Lib.hid hx
      clear hx
      cases hb : btw x 0 7 with
      | true =>
        go_wp2_with (go_at_call 27; refine (between_q _ _ _ _).mono ?_; rintro e w2 ⟨rfl, rfl⟩)
        go_round
        case rel =>
          refine ⟨k + 1, by omega, by go_num, fun j hj hjk => ?_⟩
          by_cases e : j = k
          · subst e
            rw [← HX.out, hb]
          · exact HA.out j hj (by omega)
        case measure => simp [intOf]; omega
      | false =>
        have HR := Lib.hid (tOkB_bad hlt (by rw [← HX.out, hb]))
        go_wp2_with (go_at_call 27; refine (between_q _ _ _ _).mono ?_; rintro e w2 ⟨rfl, rfl⟩)
        go_ret
        exact ⟨by rw [HR.out]; rfl, by (repeat' (first | (with_reducible exact Below.refl _ _) | (with_reducible refine bel_alloc ?_ ?_ _) | (with_reducible refine Below.setCell ?_ ?_ _) | (with_reducible refine below_drewN ?_ _) | (with_reducible refine Below.drew ?_) | (with_reducible exact Nat.le_refl _) | (with_reducible assumption) | omega | (simp only [World.size_alloc, World.size_setCell, World.size_drew]; omega) | (simp; omega) | (simp; done)))⟩
    · have HR := Lib.hid (tOkB_all (xs := xs) fun j hj => HA.out j hj (by omega))
      go_wp2_with (go_at_call 27; refine (between_q _ _ _ _).mono ?_; rintro e w2 ⟨rfl, rfl⟩)
      go_ret
      exact ⟨by rw [HR.out]; rfl, by (repeat' (first | (with_reducible exact Below.refl _ _) | (with_reducible refine bel_alloc ?_ ?_ _) | (with_reducible refine Below.setCell ?_ ?_ _) | (with_reducible refine below_drewN ?_ _) | (with_reducible refine Below.drew ?_) | (with_reducible exact Nat.le_refl _) | (with_reducible assumption) | omega | (simp only [World.size_alloc, World.size_setCell, World.size_drew]; omega) | (simp; omega) | (simp; done)))⟩
set_option maxHeartbeats 1000000 in
theorem tagsOk_s (A : Option Addr) (c : Nat) (xs : List Int) (w : World) {B : Nat} (hr : Rd w B A (iv xs)) (hn : xs.length ≤ 1048576) :
    Calls Try.prog 15 #[.agg #[.slice A xs.length c]] w fun e w' => e = .returned (.bool (tOkB xs)) ∧ Below w.heap.size w w' := by
  go_enter Try.func15, Try.ntmps15
  go_wp2
  go_loop [3] (fun v => ∃ k : Nat, k ≤ xs.length ∧ v = .int .i64 k ∧ ∀ j (hj : j < xs.length), j < k → btw xs[j] 0 7 = true) (fun v => xs.length - (intOf v).toNat)
  case atStart => exact ⟨0, Nat.zero_le _, rfl, fun j _ hj => absurd hj (by omega)⟩
  case round =>
    obtain ⟨k, hk, rfl, hall⟩ := hrel
    have HA := Lib.hid hall
    clear hall
    by_cases hlt : k < xs.length
    · obtain ⟨b, off, rfl, -, hcell⟩ := hr.int hlt
      have hbw := lt_of_cell' hcell
      obtain ⟨x, hx⟩ : ∃ x, x = xs[k] := ⟨_, rfl⟩
      rw [← hx] at hcell
      have HX := Lib.hid hx
      clear hx
      cases hb : btw x 0 7 with
      | true =>
        go_wp2_with (go_at_call 26; refine (l01In_q _ _ _ _).mono ?_; rintro e w2 ⟨rfl, rfl⟩)
        go_round
        case rel =>
          refine ⟨k + 1, by omega, by go_num, fun j hj hjk => ?_⟩
          by_cases e : j = k
          · subst e
            rw [← HX.out, hb]
          · exact HA.out j hj (by omega)
        case measure => simp [intOf]; omega
      | false =>
        have HR := Lib.hid (tOkB_bad hlt (by rw [← HX.out, hb]))
        go_wp2_with (go_at_call 26; refine (l01In_q _ _ _ _).mono ?_; rintro e w2 ⟨rfl, rfl⟩)
        go_ret
        exact ⟨by rw [HR.out]; rfl, by (repeat' (first | (with_reducible exact Below.refl _ _) | (with_reducible refine bel_alloc ?_ ?_ _) | (with_reducible refine Below.setCell ?_ ?_ _) | (with_reducible refine below_drewN ?_ _) | (with_reducible refine Below.drew ?_) | (with_reducible exact Nat.le_refl _) | (with_reducible assumption) | omega | (simp only [World.size_alloc, World.size_setCell, World.size_drew]; omega) | (simp; omega) | (simp; done)))⟩
    · have HR := Lib.hid (tOkB_all (xs := xs) fun j hj => HA.out j hj (by omega))
      go_wp2_with (go_at_call 26; refine (l01In_q _ _ _ _).mono ?_; rintro e w2 ⟨rfl, rfl⟩)
      go_ret
      exact ⟨by rw [HR.out]; rfl, by (repeat' (first | (with_reducible exact Below.refl _ _) | (with_reducible refine bel_alloc ?_ ?_ _) | (with_reducible refine Below.setCell ?_ ?_ _) | (with_reducible refine below_drewN ?_ _) | (with_reducible refine Below.drew ?_) | (with_reducible exact Nat.le_refl _) | (with_reducible assumption) | omega | (simp only [World.size_alloc, World.size_setCell, World.size_drew]; omega) | (simp; omega) | (simp; done)))⟩
end Go.Proofs.Ytlohnaodoniajaa
