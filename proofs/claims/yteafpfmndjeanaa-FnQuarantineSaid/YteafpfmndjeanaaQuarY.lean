/- sameStale of the laws; contracts with given answers. -/
import Derived.Test.YteafpfmndjeanaaQuarDr
namespace Go.Proofs.Yteafpfmndjeanaa
open Go.ChangeShapes Go.WideShapes Go.ChangeAt Go.RowKit
set_option linter.unusedVariables false
set_option linter.unusedSimpArgs false

set_option maxHeartbeats 2000000 in
theorem sameStale_same (A B : Option Addr) (n m c d : Nat) (xs : List St) (w : World) {B1 B2 : Nat} (hx : Rd w B1 A (tv xs)) (hy : Rd w B2 B (tv xs)) (hl : xs.length = n) (hl2 : xs.length = m) (hn : n ≤ 1048576) :
    Calls Try.prog 25 #[.slice A n c, .slice B m d] w fun e w' => e = .returned (.bool true) ∧ Below w.heap.size w w' := by
  subst hl hl2
  have hne : ((xs.length : Int) != (xs.length : Int)) = false := by simp
  go_enter Try.func25, Try.ntmps25
  go_wp2
  go_loopw [5] (fun v wr => ∃ k : Nat, k ≤ xs.length ∧ v = .int .i64 k ∧ Below w.heap.size w wr) (fun v _ => xs.length - (intOf v).toNat)
  case atStart => exact ⟨0, Nat.zero_le _, rfl, Below.refl _ _⟩
  case round =>
    obtain ⟨k, hk, rfl, hbr⟩ := hrel
    by_cases hlt : k < xs.length
    · obtain ⟨b, off, rfl, -, hc0, hc1, hc2⟩ := (hx.lt.below hbr).trip hlt
      obtain ⟨b2, off2, rfl, -, hd0, hd1, hd2⟩ := (hy.lt.below hbr).trip hlt
      obtain ⟨x, hx1⟩ : ∃ x, x = xs[k].1 := ⟨_, rfl⟩
      obtain ⟨y, hy1⟩ : ∃ y, y = xs[k].2.1 := ⟨_, rfl⟩
      obtain ⟨z, hz1⟩ : ∃ z, z = xs[k].2.2 := ⟨_, rfl⟩
      rw [← hx1] at hc0 hd0
      rw [← hy1] at hc1 hd1
      rw [← hz1] at hc2 hd2
      clear hx1 hy1 hz1
      have i0 : (0 : Int) ≤ (k : Int) := by omega
      have i1 : (k : Int) < (xs.length : Int) := by omega
      go_wp2
      go_quiet (fail)
      go_wp2
      go_roundw
      case rel => exact ⟨k + 1, by omega, by go_num, by (repeat' (first | (with_reducible exact Below.refl _ _) | (with_reducible refine bel_alloc ?_ ?_ _) | (with_reducible refine Below.setCell ?_ ?_ _) | (with_reducible refine below_drewN ?_ _) | (with_reducible refine Below.drew ?_) | (with_reducible refine bel_step hbr ?_ ?_) | (with_reducible exact Nat.le_refl _) | (with_reducible assumption) | omega | (simp only [World.size_alloc, World.size_setCell, World.size_drew]; omega) | (simp; omega) | (simp; done)))⟩
      case measure => simp [intOf]; omega
    · go_wp2
      go_ret
      exact ⟨rfl, hbr⟩
theorem quarHas_v (r : Int) (A : Option Addr) (n c : Nat) (xs : List St) (a : Int) (w : World) {B : Nat} (hr : Rd w B A (tv xs)) (hl : xs.length = n) (hn : n ≤ 1048576) {v : Bool} (hv : hasA xs a = v) :
    Calls Try.prog 18 #[.agg #[.int .i64 r, .slice A n c], .int .i64 a] w fun e w' => e = .returned (.bool v) ∧ Below w.heap.size w w' := by
  subst hv
  exact quarHas_i r A n c xs a w hr hl hn
end Go.Proofs.Yteafpfmndjeanaa
