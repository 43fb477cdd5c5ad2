/- DrawRanges; sameRanges of the laws. -/
import Derived.Test.YtfdpplamebmdhaaRangeD
namespace Go.Proofs.Ytfdpplamebmdhaa
open Go.ChangeShapes Go.WideShapes Go.ChangeAt Go.RowKit
set_option linter.unusedVariables false
set_option linter.unusedSimpArgs false

def DrawnR (w : World) (e : Ending) (w' : World) : Prop :=
  ∃ (pages : Int) (A1 : Option Addr) (c1 : Nat) (xs : List Rg), e = .returned (.tuple #[.int .i64 pages, .slice A1 xs.length c1]) ∧ rOkB pages xs = true ∧ Rd w' w'.heap.size A1 (pv xs) ∧ (xs.length ≤ c1 ∧ c1 ≤ maxLen) ∧ Below w.heap.size w w'
theorem drawRanges_any {B : Nat} (A : Option Addr) (c : Nat) (bs : List Int) (w : World) (hb : Bytes bs) (hr : Rd w B A (bv bs)) :
    Calls Try.prog 33 #[.slice A bs.length c] w (DrawnR w) := by
  go_enter Try.func33, Try.ntmps33
  go_wp2_with fail
  refine (l01New_any _ A c bs _ hb hr.lt).mono ?_
  rintro e w1 ⟨g, rfl, hg0, hg1, hc, hb1⟩
  go_wp2_with fail
  refine (l19Case_any g _ A c bs _ hb hg0 hc).mono ?_
  rintro e w2 ⟨pg, A1, c1, xs, rfl, h1, h2, h3, ho⟩
  have HB := Lib.hid (ho.bel hb1 hg0)
  go_wp2
  go_ret2
  exact ⟨pg, A1, c1, xs, rfl, h1, h2, h3, HB.out⟩
set_option maxHeartbeats 2000000 in
theorem sameRanges_same (A B : Option Addr) (n c d : Nat) (xs : List Rg) (w : World) {B1 B2 : Nat} (hx : Rd w B1 A (pv xs)) (hy : Rd w B2 B (pv xs)) (hl : xs.length = n) (hn : n ≤ 1048576) :
    Calls Try.prog 34 #[.slice A n c, .slice B n d] w fun e w' => e = .returned (.bool true) ∧ Below w.heap.size w w' := by
  subst hl
  have hne : ((xs.length : Int) != (xs.length : Int)) = false := by simp
  go_enter Try.func34, Try.ntmps34
  go_wp2
  go_loopw [5] (fun v wr => ∃ k : Nat, k ≤ xs.length ∧ v = .int .i64 k ∧ Below w.heap.size w wr) (fun v _ => xs.length - (intOf v).toNat)
  case atStart => exact ⟨0, Nat.zero_le _, rfl, Below.refl _ _⟩
  case round =>
    obtain ⟨k, hk, rfl, hbr⟩ := hrel
    by_cases hlt : k < xs.length
    · obtain ⟨b, off, rfl, -, hc0, hc1⟩ := (hx.lt.below hbr).pair hlt
      obtain ⟨b2, off2, rfl, -, hd0, hd1⟩ := (hy.lt.below hbr).pair hlt
      obtain ⟨x, hx1⟩ : ∃ x, x = xs[k].1 := ⟨_, rfl⟩
      obtain ⟨y, hy1⟩ : ∃ y, y = xs[k].2 := ⟨_, rfl⟩
      rw [← hx1] at hc0 hd0
      rw [← hy1] at hc1 hd1
      clear hx1 hy1
      have i0 : (0 : Int) ≤ (k : Int) := by omega
      have i1 : (k : Int) < (xs.length : Int) := by omega
      go_wp2
      go_quiet (fail)
      go_wp2
      go_roundw
      case rel => exact ⟨k + 1, by omega, by go_num, by (repeat' (first | (with_reducible exact Below.refl _ _) | (with_reducible refine bel_alloc ?_ ?_ _) | (with_reducible refine Below.setCell ?_ ?_ _) | (with_reducible refine below_drewN ?_ _) | (with_reducible refine Below.drew ?_) | (with_reducible refine bel_step hbr ?_ ?_) | (with_reducible exact Nat.le_refl _) | (with_reducible assumption) | omega | (simp only [World.size_alloc, World.size_setCell, World.size_drew]; omega) | (simp; omega) | (simp; done)))⟩
      case measure => simp [intOf]; omega
    · go_wp2
      go_ret
      exact ⟨rfl, hbr⟩
end Go.Proofs.Ytfdpplamebmdhaa
