/- samePosts, sameBuffers, sameMail of the laws, at equal mails. -/
import Derived.Test.YtggigndkamkclaaSameL
import Derived.Test.YtggigndkamkclaaMailX
import Derived.Lib.QuietBelow
namespace Go.Proofs.Ytggigndkamkclaa
open Go.ChangeShapes Go.WideShapes Go.ChangeAt Go.RowKit
set_option linter.unusedVariables false
set_option linter.unusedSimpArgs false

set_option maxHeartbeats 2000000 in
theorem samePosts_same (A B : Option Addr) (n m c d : Nat) (xs : List Po) (w : World) {B1 B2 : Nat} (hx : Rd w B1 A (pv xs)) (hy : Rd w B2 B (pv xs)) (hl : xs.length = n) (hl2 : xs.length = m) (hn : xs.length ≤ 1048576) :
    Calls Try.prog 67 #[.slice A n c, .slice B m d] w fun e w' => e = .returned (.bool true) ∧ Below w.heap.size w w' := by
  subst hl hl2
  have hne : ((xs.length : Int) != (xs.length : Int)) = false := by simp
  go_enter Try.func67, Try.ntmps67
  go_wp2
  go_loopw [5] (fun v wr => ∃ k : Nat, k ≤ xs.length ∧ v = .int .i64 k ∧ Below w.heap.size w wr) (fun v _ => xs.length - (intOf v).toNat)
  case atStart => exact ⟨0, Nat.zero_le _, rfl, Below.refl _ _⟩
  case round =>
    obtain ⟨k, hk, rfl, hbr⟩ := hrel
    by_cases hlt : k < xs.length
    · obtain ⟨b, off, rfl, -, hc0, hc1⟩ := (hx.lt.below hbr).pair hlt
      obtain ⟨b2, off2, rfl, -, hd0, hd1⟩ := (hy.lt.below hbr).pair hlt
      generalize xs[k].1 = x at *
      generalize xs[k].2 = y at *
      have i0 : (0 : Int) ≤ (k : Int) := by omega
      have i1 : (k : Int) < (xs.length : Int) := by omega
      go_wp2
      go_quiet (fail)
      go_wp2
      go_roundw
      case rel => exact ⟨k + 1, by omega, by go_num, by (repeat' (first | (with_reducible exact Below.refl _ _) | (with_reducible refine bel_alloc ?_ ?_ _) | (with_reducible refine Below.setCell ?_ ?_ _) | (with_reducible refine below_drewN ?_ _) | (with_reducible refine Below.drew ?_) | (with_reducible refine bel_step hbr ?_ ?_) | (with_reducible exact Nat.le_refl _) | (with_reducible assumption) | omega | (simp only [World.size_alloc, World.size_setCell, World.size_drew]; omega) | (simp; omega) | (simp; done)))⟩
      case measure => simp [intOf]; omega
    · go_wp2
      go_ret
      exact ⟨rfl, hbr⟩
set_option maxHeartbeats 2000000 in
theorem sameBuffers_same (A B : Option Addr) (n c d : Nat) (xss : List (List Po)) (w : World) {B1 B2 : Nat} (hx : Rd2 pv w B1 A xss) (hy : Rd2 pv w B2 B xss) (hl : xss.length = n) (hn : n ≤ 1048576) (hm : ∀ l ∈ xss, l.length ≤ 1048576) :
    Calls Try.prog 54 #[.slice A n c, .slice B n d] w fun e w' => e = .returned (.bool true) ∧ Below w.heap.size w w' := by
  subst hl
  have HM := Lib.hid hm
  clear hm
  have hne : ((xss.length : Int) != (xss.length : Int)) = false := by simp
  go_enter Try.func54, Try.ntmps54
  go_wp2
  go_loopw [5] (fun v wr => ∃ k : Nat, k ≤ xss.length ∧ v = .int .i64 k ∧ Below w.heap.size w wr) (fun v _ => xss.length - (intOf v).toNat)
  case atStart => exact ⟨0, Nat.zero_le _, rfl, Below.refl _ _⟩
  case round =>
    obtain ⟨k, hk, rfl, hbr⟩ := hrel
    by_cases hlt : k < xss.length
    · obtain ⟨b, off, A1, c1, rfl, -, hc, hrx⟩ := (hx.lt.below hbr).row hlt
      obtain ⟨b2, off2, A2, c2, rfl, -, hd, hry⟩ := (hy.lt.below hbr).row hlt
      have hlm := HM.out _ (List.getElem_mem hlt)
      generalize xss[k] = q at *
      have i0 : (0 : Int) ≤ (k : Int) := by omega
      have i1 : (k : Int) < (xss.length : Int) := by omega
      have k0 := cell_regrown hc
      have k1 := cell_regrown hd
      have cE := fun dd os => Calls.regrown_of (samePosts_same A1 A2 q.length q.length c1 c2 q (Go.Sort.grow (redrawn wr dd) os) (hrx.below (below_regrown wr dd os)) (hry.below (below_regrown wr dd os)) rfl rfl hlm)
      go_wp2
      refine wp_region_quiet_below (by kernel_rfl) (by kernel_rfl) ?_
      repeat (first | go_big_quiet_step (first | (with_reducible exact cE _ _)) | quiet_step (first | (with_reducible exact cE _ _)))
      refine wpQuiet_nil ?_
      intro _ hw_q
      obtain ⟨⟨dq, osq⟩, hw_q'⟩ := hw_q
      subst hw_q'
      have hbq := below_regrown wr dq osq
      generalize Go.Sort.grow (redrawn wr dq) osq = wq at *
      go_wp2
      go_roundw
      case rel => exact ⟨k + 1, by omega, by go_num, bel_step hbq hbr (Nat.le_refl _)⟩
      case measure => simp [intOf]; omega
    · go_wp2
      go_ret
      exact ⟨rfl, hbr⟩
set_option maxHeartbeats 2000000 in
theorem sameMail_same (A B A' B' : Option Addr) (c d c' d' n m : Nat) (xss : List (List Po)) (yss : List (List Int)) (w : World) {B1 B2 B3 B4 : Nat} (hx : Rd2 pv w B1 A xss) (hy : Rd2 iv w B2 B yss) (hx' : Rd2 pv w B3 A' xss) (hy' : Rd2 iv w B4 B' yss) (hl : xss.length = n) (hl2 : yss.length = m) (hn : Rows xss ∧ Rows yss) :
    Calls Try.prog 26 #[.agg #[.slice A n c, .slice B m d], .agg #[.slice A' n c', .slice B' m d']] w fun e w' => e = .returned (.bool true) ∧ Below w.heap.size w w' := by
  have hn1 : n ≤ 1048576 := by rw [← hl]; exact hn.1.1
  have hm1 : m ≤ 1048576 := by rw [← hl2]; exact hn.2.1
  have HM := Lib.hid hn.1.2
  have HM2 := Lib.hid hn.2.2
  have HL := Lib.hid hl
  have HL2 := Lib.hid hl2
  clear hn hl hl2
  go_enter Try.func26, Try.ntmps26
  go_wp2_with fail
  refine (sameBuffers_same _ _ _ _ _ _ _ ((hx.alloc _).alloc _) ((hx'.alloc _).alloc _) HL.out hn1 HM.out).mono ?_
  rintro e w1 ⟨rfl, hb⟩
  have k0 : w1.cell? ⟨w.heap.size, 0, none⟩ = some (.slice A n c) := keep hb (by simp [go_sem])
  have k1 : w1.cell? ⟨w.heap.size, 1, none⟩ = some (.slice B m d) := keep hb (by simp [go_sem])
  have q0 : w1.cell? ⟨(w.heap.size + 1), 0, none⟩ = some (.slice A' n c') := keep hb (by simp [go_sem])
  have q1 : w1.cell? ⟨(w.heap.size + 1), 1, none⟩ = some (.slice B' m d') := keep hb (by simp [go_sem])
  go_wp2_with fail
  refine (sameLists_same _ _ _ _ _ _ _ (((hy.alloc _).alloc _).below hb) (((hy'.alloc _).alloc _).below hb) HL2.out hm1 HM2.out).mono ?_
  rintro e w2 ⟨rfl, hb2⟩
  go_wp2
  go_ret
  exact ⟨rfl, by (repeat' (first | (with_reducible exact Below.refl _ _) | (with_reducible refine bel_alloc ?_ ?_ _) | (with_reducible refine Below.setCell ?_ ?_ _) | (with_reducible refine below_drewN ?_ _) | (with_reducible refine Below.drew ?_) | (with_reducible refine bel_step hb ?_ ?_) | (with_reducible refine bel_step hb2 ?_ ?_) | (with_reducible exact Nat.le_refl _) | (with_reducible assumption) | omega | (simp only [World.size_alloc, World.size_setCell, World.size_drew]; omega) | (simp; omega) | (simp; done)))⟩
end Go.Proofs.Ytggigndkamkclaa
