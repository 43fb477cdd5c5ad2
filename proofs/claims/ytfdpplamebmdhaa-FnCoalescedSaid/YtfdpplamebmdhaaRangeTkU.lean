/- RangeTake, of the reference, where it takes nothing. -/
import Derived.Test.YtfdpplamebmdhaaRangeTkT
import Derived.Test.YtfdpplamebmdhaaRangeU2
namespace Go.Proofs.Ytfdpplamebmdhaa
open Go.ChangeShapes Go.WideShapes Go.ChangeAt Go.RowKit
set_option linter.unusedVariables false
set_option linter.unusedSimpArgs false

set_option maxHeartbeats 4000000 in
theorem rangeTake_s_no (pages : Int) (A : Option Addr) (c : Nat) (xs : List Rg) (n : Int) (w : World) {B : Nat} (hr : Rd w B A (pv xs)) (hn : xs.length ≤ 1048576) (hpg : -9223372036854775808 ≤ pages ∧ pages ≤ 9223372036854775807) (hno : rOkB pages xs = false ∨ n < 1) :
    Calls Try.prog 27 #[.int .i64 pages, .slice A xs.length c, .int .i64 n] w (MadeRT xs (-1) false w) := by
  have CO := fun W (h : Rd W W.heap.size A (pv xs)) => rangesOk_s pages A c xs W h hn hpg
  obtain ⟨it, hit, iz0, iz1, iz2⟩ := info_parts infoRange
  have HL := Lib.hid (pv_length xs)
  go_enter Try.func27, Try.ntmps27
  go_wp2_with (at_builtin; refine wpList_append_new rfl (.tmp 13) (.tmp 14) _ rfl 42 it (.agg #[.int .i64 0, .int .i64 0]) 2 16 Try.underlying25 hit iz0 iz1 iz2 rfl (by omega) w.heap.size rfl (own_lit rfl) A xs.length c (pv xs) rfl HL.out (hr.alloc _) (pv_one _) (by unfold maxLen; omega) (by omega) (by simp) ?_; intro A3 c3 w3 ho hS3 hA3)
  have hr3 := (hr.lt.alloc (.cells #[] 42)).outS hS3 (fun b hb => by rw [hb]; omega)
  have hb3 : Below w.heap.size w w3 := bel_outS hS3 (fun b hb => by rw [hb]; omega) (by (repeat' (first | (with_reducible exact Below.refl _ _) | (with_reducible refine bel_alloc ?_ ?_ _) | (with_reducible refine Below.setCell ?_ ?_ _) | (with_reducible refine below_drewN ?_ _) | (with_reducible refine Below.drew ?_) | (with_reducible exact Nat.le_refl _) | (with_reducible assumption) | omega | (simp only [World.size_alloc, World.size_setCell, World.size_drew]; omega) | (simp; omega) | (simp; done)))) (Nat.le_refl _)
  clear hS3 hA3
  cases hv : rOkB pages xs with
  | false =>
    rw [hv] at CO
    have CO := Lib.hid CO
    clear hno hv
    refine (CO.out _ hr3.lt).mono ?_
    rintro e w2 ⟨rfl, hb2⟩
    have HB := Lib.hid (show Below w.heap.size w w2 by (repeat' (first | (with_reducible exact Below.refl _ _) | (with_reducible refine bel_alloc ?_ ?_ _) | (with_reducible refine Below.setCell ?_ ?_ _) | (with_reducible refine below_drewN ?_ _) | (with_reducible refine Below.drew ?_) | (with_reducible refine bel_step hb3 ?_ ?_) | (with_reducible refine bel_step hb2 ?_ ?_) | (with_reducible exact Nat.le_refl _) | (with_reducible assumption) | omega | (simp only [World.size_alloc, World.size_setCell, World.size_drew]; omega) | (simp; omega) | (simp; done))))
    have HO := Lib.hid (ho.below hb2)
    go_wp2
    go_ret3
    exact made_rt rfl HO.out.1 (Nat.le_refl _) HB.out
  | true =>
    have hi8 := hno.resolve_left (by rw [hv]; simp)
    rw [hv] at CO
    have CO := Lib.hid CO
    clear hno hv
    refine (CO.out _ hr3.lt).mono ?_
    rintro e w2 ⟨rfl, hb2⟩
    have HB := Lib.hid (show Below w.heap.size w w2 by (repeat' (first | (with_reducible exact Below.refl _ _) | (with_reducible refine bel_alloc ?_ ?_ _) | (with_reducible refine Below.setCell ?_ ?_ _) | (with_reducible refine below_drewN ?_ _) | (with_reducible refine Below.drew ?_) | (with_reducible refine bel_step hb3 ?_ ?_) | (with_reducible refine bel_step hb2 ?_ ?_) | (with_reducible exact Nat.le_refl _) | (with_reducible assumption) | omega | (simp only [World.size_alloc, World.size_setCell, World.size_drew]; omega) | (simp; omega) | (simp; done))))
    have HO := Lib.hid (ho.below hb2)
    go_wp2
    go_ret3
    exact made_rt rfl HO.out.1 (Nat.le_refl _) HB.out
set_option maxHeartbeats 8000000 in
set_option maxRecDepth 100000 in
theorem rangeTake_s_none (pages : Int) (A : Option Addr) (c : Nat) (xs : List Rg) (n : Int) (w : World) {B : Nat} (hr : Rd w B A (pv xs)) (hn : xs.length ≤ 1048576) (hpg : -9223372036854775808 ≤ pages ∧ pages ≤ 9223372036854775807) (h1 : rOkB pages xs = true) (h2 : 1 ≤ n) (h3 : bst n xs xs.length < 0) :
    Calls Try.prog 27 #[.int .i64 pages, .slice A xs.length c, .int .i64 n] w (MadeRT xs (-1) false w) := by
  have CO := fun W (h : Rd W W.heap.size A (pv xs)) => rangesOk_s pages A c xs W h hn hpg
  rw [h1] at CO
  have CO := Lib.hid CO
  obtain ⟨it, hit, iz0, iz1, iz2⟩ := info_parts infoRange
  have HL := Lib.hid (pv_length xs)
  go_enter Try.func27, Try.ntmps27
  go_wp2_with (at_builtin; refine wpList_append_new rfl (.tmp 13) (.tmp 14) _ rfl 42 it (.agg #[.int .i64 0, .int .i64 0]) 2 16 Try.underlying25 hit iz0 iz1 iz2 rfl (by omega) w.heap.size rfl (own_lit rfl) A xs.length c (pv xs) rfl HL.out (hr.alloc _) (pv_one _) (by unfold maxLen; omega) (by omega) (by simp) ?_; intro A3 c3 w3 ho hS3 hA3)
  have hr3 := (hr.lt.alloc (.cells #[] 42)).outS hS3 (fun b hb => by rw [hb]; omega)
  have hb3 : Below w.heap.size w w3 := bel_outS hS3 (fun b hb => by rw [hb]; omega) (by (repeat' (first | (with_reducible exact Below.refl _ _) | (with_reducible refine bel_alloc ?_ ?_ _) | (with_reducible refine Below.setCell ?_ ?_ _) | (with_reducible refine below_drewN ?_ _) | (with_reducible refine Below.drew ?_) | (with_reducible exact Nat.le_refl _) | (with_reducible assumption) | omega | (simp only [World.size_alloc, World.size_setCell, World.size_drew]; omega) | (simp; omega) | (simp; done)))) (Nat.le_refl _)
  clear hS3 hA3
  refine (CO.out _ hr3.lt).mono ?_
  rintro e w2 ⟨rfl, hb2⟩
  have HB := Lib.hid (show Below w.heap.size w w2 by (repeat' (first | (with_reducible exact Below.refl _ _) | (with_reducible refine bel_alloc ?_ ?_ _) | (with_reducible refine Below.setCell ?_ ?_ _) | (with_reducible refine below_drewN ?_ _) | (with_reducible refine Below.drew ?_) | (with_reducible refine bel_step hb3 ?_ ?_) | (with_reducible refine bel_step hb2 ?_ ?_) | (with_reducible exact Nat.le_refl _) | (with_reducible assumption) | omega | (simp only [World.size_alloc, World.size_setCell, World.size_drew]; omega) | (simp; omega) | (simp; done))))
  replace ho := ho.below hb2
  have hb0 := bst_bd n xs 0
  go_wp2
  go_loopw [10, 11] (fun v10 v27 wr => ∃ k : Nat, k ≤ xs.length ∧ v27 = .int .i64 k ∧ v10 = .int .i64 (bst n xs k) ∧ Below w.heap.size w wr ∧ Below w2.heap.size w2 wr) (fun _ v _ => xs.length - (intOf v).toNat)
  case atStart => exact ⟨0, Nat.zero_le _, rfl, rfl, HB.out, Below.refl _ _⟩
  case round =>
    obtain ⟨k, hk, rfl, rfl, hbr, hbq⟩ := hrel
    have hrr := hr.below hbr
    by_cases hlt : k < xs.length
    · obtain ⟨b3, off3, rfl, -, hx0, hx1⟩ := hrr.pair hlt
      have i2 : (0 : Int) ≤ (k : Int) := by omega
      have i3 : (k : Int) < (xs.length : Int) := by omega
      obtain ⟨x1, hx1e⟩ : ∃ x, x = xs[k].1 := ⟨_, rfl⟩
      obtain ⟨x2, hx2e⟩ : ∃ y, y = xs[k].2 := ⟨_, rfl⟩
      rw [← hx1e] at hx0
      rw [← hx2e] at hx1
      have hbb := bst_bd n xs k
      by_cases hge : n ≤ x2
      · have hgb : decide (n ≤ x2) = true := by simp [hge]
        by_cases hneg : bst n xs k < 0
        · have HU := Lib.hid (bst_up hlt (by rw [← hx2e]; exact hge) (.inl hneg))
          have hnb : decide (bst n xs k < 0) = true := by simp [hneg]
          clear hx1e hx2e
          generalize bst n xs k = bb at *
          go_wp2
          go_quiet (fail)
          go_wp2
          go_roundw
          case rel => exact ⟨k + 1, by omega, by go_num, by rw [HU.out], by (repeat' (first | (with_reducible exact Below.refl _ _) | (with_reducible refine bel_alloc ?_ ?_ _) | (with_reducible refine Below.setCell ?_ ?_ _) | (with_reducible refine below_drewN ?_ _) | (with_reducible refine Below.drew ?_) | (with_reducible refine bel_step hbr ?_ ?_) | (with_reducible exact Nat.le_refl _) | (with_reducible assumption) | omega | (simp only [World.size_alloc, World.size_setCell, World.size_drew]; omega) | (simp; omega) | (simp; done))), by (repeat' (first | (with_reducible exact Below.refl _ _) | (with_reducible refine bel_alloc ?_ ?_ _) | (with_reducible refine Below.setCell ?_ ?_ _) | (with_reducible refine below_drewN ?_ _) | (with_reducible refine Below.drew ?_) | (with_reducible refine bel_step hbq ?_ ?_) | (with_reducible exact Nat.le_refl _) | (with_reducible assumption) | omega | (simp only [World.size_alloc, World.size_setCell, World.size_drew]; omega) | (simp; omega) | (simp; done)))⟩
          case measure => simp [intOf]; omega
        · obtain ⟨j, hj⟩ : ∃ j : Nat, bst n xs k = (j : Int) := ⟨(bst n xs k).toNat, by omega⟩
          have hjk : j < k := by omega
          have hjl : j < xs.length := by omega
          obtain ⟨b4, off4, hA4, -, hy0, hy1⟩ := hrr.pair hjl
          obtain ⟨rfl, rfl⟩ : b3 = b4 ∧ off3 = off4 := by injection hA4 with e; injection e with e1 e2; exact ⟨e1, e2⟩
          clear hA4
          have hbl4 := lt_of_cell' hy1
          have hz2 : (xs.getD (bst n xs k).toNat (0, 0)).2 = xs[j].2 := by rw [hj]; simp [List.getElem?_eq_getElem hjl]
          obtain ⟨y2, hy2e⟩ : ∃ y, y = xs[j].2 := ⟨_, rfl⟩
          rw [← hy2e] at hy1 hz2
          have i0 : (0 : Int) ≤ (j : Int) := by omega
          have i1 : (j : Int) < (xs.length : Int) := by omega
          have hnb : decide ((j : Int) < 0) = false := by simp
          by_cases hlt2 : x2 < y2
          · have HU := Lib.hid (bst_up hlt (by rw [← hx2e]; exact hge) (.inr (by rw [hz2, ← hx2e]; exact hlt2)))
            clear hx1e hx2e hz2 hy2e hneg
            rw [hj]
            clear hj hbb
            go_wp2
            go_quiet (fail)
            go_wp2
            go_roundw
            case rel => exact ⟨k + 1, by omega, by go_num, by rw [HU.out], by (repeat' (first | (with_reducible exact Below.refl _ _) | (with_reducible refine bel_alloc ?_ ?_ _) | (with_reducible refine Below.setCell ?_ ?_ _) | (with_reducible refine below_drewN ?_ _) | (with_reducible refine Below.drew ?_) | (with_reducible refine bel_step hbr ?_ ?_) | (with_reducible exact Nat.le_refl _) | (with_reducible assumption) | omega | (simp only [World.size_alloc, World.size_setCell, World.size_drew]; omega) | (simp; omega) | (simp; done))), by (repeat' (first | (with_reducible exact Below.refl _ _) | (with_reducible refine bel_alloc ?_ ?_ _) | (with_reducible refine Below.setCell ?_ ?_ _) | (with_reducible refine below_drewN ?_ _) | (with_reducible refine Below.drew ?_) | (with_reducible refine bel_step hbq ?_ ?_) | (with_reducible exact Nat.le_refl _) | (with_reducible assumption) | omega | (simp only [World.size_alloc, World.size_setCell, World.size_drew]; omega) | (simp; omega) | (simp; done)))⟩
            case measure => simp [intOf]; omega
          · have HU := Lib.hid (bst_no hlt (by rw [← hx2e]; intro h; rw [hz2] at h; omega))
            have hl2 : decide (x2 < y2) = false := by simp [hlt2]
            have HJ := Lib.hid hj
            clear hx1e hx2e hz2 hy2e hneg
            rw [hj]
            clear hj hbb
            go_wp2
            go_quiet (fail)
            go_wp2
            go_roundw
            case rel => exact ⟨k + 1, by omega, by go_num, by rw [HU.out, HJ.out], by (repeat' (first | (with_reducible exact Below.refl _ _) | (with_reducible refine bel_alloc ?_ ?_ _) | (with_reducible refine Below.setCell ?_ ?_ _) | (with_reducible refine below_drewN ?_ _) | (with_reducible refine Below.drew ?_) | (with_reducible refine bel_step hbr ?_ ?_) | (with_reducible exact Nat.le_refl _) | (with_reducible assumption) | omega | (simp only [World.size_alloc, World.size_setCell, World.size_drew]; omega) | (simp; omega) | (simp; done))), by (repeat' (first | (with_reducible exact Below.refl _ _) | (with_reducible refine bel_alloc ?_ ?_ _) | (with_reducible refine Below.setCell ?_ ?_ _) | (with_reducible refine below_drewN ?_ _) | (with_reducible refine Below.drew ?_) | (with_reducible refine bel_step hbq ?_ ?_) | (with_reducible exact Nat.le_refl _) | (with_reducible assumption) | omega | (simp only [World.size_alloc, World.size_setCell, World.size_drew]; omega) | (simp; omega) | (simp; done)))⟩
            case measure => simp [intOf]; omega
      · have HU := Lib.hid (bst_no hlt (by rw [← hx2e]; exact fun h => hge h.1))
        have hg := Lib.hid hge
        have hge2 : (decide (n ≤ x2)) = false := by simp [hge]
        clear hx1e hx2e hge
        go_wp2
        go_quiet (fail)
        go_wp2
        go_roundw
        case rel => exact ⟨k + 1, by omega, by go_num, by rw [HU.out], by (repeat' (first | (with_reducible exact Below.refl _ _) | (with_reducible refine bel_alloc ?_ ?_ _) | (with_reducible refine Below.setCell ?_ ?_ _) | (with_reducible refine below_drewN ?_ _) | (with_reducible refine Below.drew ?_) | (with_reducible refine bel_step hbr ?_ ?_) | (with_reducible exact Nat.le_refl _) | (with_reducible assumption) | omega | (simp only [World.size_alloc, World.size_setCell, World.size_drew]; omega) | (simp; omega) | (simp; done))), by (repeat' (first | (with_reducible exact Below.refl _ _) | (with_reducible refine bel_alloc ?_ ?_ _) | (with_reducible refine Below.setCell ?_ ?_ _) | (with_reducible refine below_drewN ?_ _) | (with_reducible refine Below.drew ?_) | (with_reducible refine bel_step hbq ?_ ?_) | (with_reducible exact Nat.le_refl _) | (with_reducible assumption) | omega | (simp only [World.size_alloc, World.size_setCell, World.size_drew]; omega) | (simp; omega) | (simp; done)))⟩
        case measure => simp [intOf]; omega
    · obtain rfl : k = xs.length := by omega
      go_wp2
      go_ret3
      exact made_rt rfl (ho.below hbq).1 (Nat.le_refl _) hbr
end Go.Proofs.Ytfdpplamebmdhaa
