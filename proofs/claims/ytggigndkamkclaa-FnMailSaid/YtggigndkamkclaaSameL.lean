/- sameInts, sameLists of the laws, at equal lists. -/
import Derived.Test.YtggigndkamkclaaIntW
import Derived.Lib.QuietBelow
namespace Go.Proofs.Ytggigndkamkclaa
open Go.ChangeShapes Go.WideShapes Go.ChangeAt Go.RowKit
set_option linter.unusedVariables false
set_option linter.unusedSimpArgs false

set_option maxHeartbeats 2000000 in
theorem sameInts_same (A B : Option Addr) (n m c d : Nat) (xs : List Int) (w : World) {B1 B2 : Nat} (hx : Rd w B1 A (iv xs)) (hy : Rd w B2 B (iv xs)) (hl : xs.length = n) (hl2 : xs.length = m) (hn : xs.length ≤ 1048576) :
    Calls Try.prog 68 #[.slice A n c, .slice B m d] w fun e w' => e = .returned (.bool true) ∧ Below w.heap.size w w' := by
  subst hl hl2
  have hne : ((xs.length : Int) != (xs.length : Int)) = false := by simp
  go_enter Try.func68, Try.ntmps68
  go_wp2
  go_loopw [5] (fun v wr => ∃ k : Nat, k ≤ xs.length ∧ v = .int .i64 k ∧ Below w.heap.size w wr) (fun v _ => xs.length - (intOf v).toNat)
  case atStart => exact ⟨0, Nat.zero_le _, rfl, Below.refl _ _⟩
  case round =>
    obtain ⟨k, hk, rfl, hbr⟩ := hrel
    by_cases hlt : k < xs.length
    · obtain ⟨b, off, rfl, -, hc0⟩ := (hx.lt.below hbr).int hlt
      obtain ⟨b2, off2, rfl, -, hd0⟩ := (hy.lt.below hbr).int hlt
      generalize xs[k] = x at *
      have i0 : (0 : Int) ≤ (k : Int) := by omega
      have i1 : (k : Int) < (xs.length : Int) := by omega
      go_wp2
      go_quiet (fail)
      go_wp2
      go_roundw
      case rel => exact ⟨k + 1, by omega, by go_num, by (repeat' (first | (with_reducible exact Below.refl _ _) | (with_reducible refine bel_alloc ?_ ?_ _) | (with_reducible refine Below.setCell ?_ ?_ _) | (with_reducible refine below_drewN ?_ _) | (with_reducible refine Below.drew ?_) | (with_reducible refine bel_step hbr ?_ ?_) | (with_reducible exact Nat.le_refl _) | (with_reducible assumption) | omega | (simp only [World.size_alloc, World.size_setCell, World.size_drew]; omega) | (simp; omega) | (simp; done)))⟩
      case measure => simp [intOf]; omega
    · go_wp2
      go_ret
      exact ⟨rfl, hbr⟩
set_option maxHeartbeats 2000000 in
theorem sameLists_same (A B : Option Addr) (n c d : Nat) (xss : List (List Int)) (w : World) {B1 B2 : Nat} (hx : Rd2 iv w B1 A xss) (hy : Rd2 iv w B2 B xss) (hl : xss.length = n) (hn : n ≤ 1048576) (hm : ∀ l ∈ xss, l.length ≤ 1048576) :
    Calls Try.prog 55 #[.slice A n c, .slice B n d] w fun e w' => e = .returned (.bool true) ∧ Below w.heap.size w w' := by
  subst hl
  have HM := Lib.hid hm
  clear hm
  have hne : ((xss.length : Int) != (xss.length : Int)) = false := by simp
  go_enter Try.func55, Try.ntmps55
  go_wp2
  go_loopw [5] (fun v wr => ∃ k : Nat, k ≤ xss.length ∧ v = .int .i64 k ∧ Below w.heap.size w wr) (fun v _ => xss.length - (intOf v).toNat)
  case atStart => exact ⟨0, Nat.zero_le _, rfl, Below.refl _ _⟩
  case round =>
    obtain ⟨k, hk, rfl, hbr⟩ := hrel
    by_cases hlt : k < xss.length
    · obtain ⟨b, off, A1, c1, rfl, -, hc, hrx⟩ := (hx.lt.below hbr).row hlt
      obtain ⟨b2, off2, A2, c2, rfl, -, hd, hry⟩ := (hy.lt.below hbr).row hlt
      have hlm := HM.out _ (List.getElem_mem hlt)
      generalize xss[k] = q at *
      have i0 : (0 : Int) ≤ (k : Int) := by omega
      have i1 : (k : Int) < (xss.length : Int) := by omega
      have k0 := cell_regrown hc
      have k1 := cell_regrown hd
      have cE := fun dd os => Calls.regrown_of (sameInts_same A1 A2 q.length q.length c1 c2 q (Go.Sort.grow (redrawn wr dd) os) (hrx.below (below_regrown wr dd os)) (hry.below (below_regrown wr dd os)) rfl rfl hlm)
      go_wp2
      refine wp_region_quiet_below (by kernel_rfl) (by kernel_rfl) ?_
      repeat (first | go_big_quiet_step (first | (with_reducible exact cE _ _)) | quiet_step (first | (with_reducible exact cE _ _)))
      refine wpQuiet_nil ?_
      intro _ hw_q
      obtain ⟨⟨dq, osq⟩, hw_q'⟩ := hw_q
      subst hw_q'
      have hbq := below_regrown wr dq osq
      generalize Go.Sort.grow (redrawn wr dq) osq = wq at *
      go_wp2
      go_roundw
      case rel => exact ⟨k + 1, by omega, by go_num, bel_step hbq hbr (Nat.le_refl _)⟩
      case measure => simp [intOf]; omega
    · go_wp2
      go_ret
      exact ⟨rfl, hbr⟩
end Go.Proofs.Ytggigndkamkclaa
