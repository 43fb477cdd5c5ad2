/- CacheCells, of the program and of the reference. -/
import Derived.Test.YtmfomflmbhognaaCacheD
import Derived.Lib.QuietBelow
namespace Go.Proofs.Ytmfomflmbhognaa
open Go.ChangeShapes Go.WideShapes Go.ChangeAt Go.RowKit Go.Maps
set_option linter.unusedVariables false

def cSum (xss : List (List Int)) : Nat → Int
  | 0 => 0
  | k + 1 => cSum xss k + ((xss.getD k []).length : Int) * cs k
def cCells (xss : List (List Int)) : Int := if cOkB xss then cSum xss xss.length else 0
theorem cOk_rows {xss : List (List Int)} (h : cOkB xss = true) : xss.length = 4 ∧ ∀ k (hk : k < xss.length), xss[k].length ≤ 8 := by
  simp only [cOkB, Bool.and_eq_true, decide_eq_true_eq, List.all_eq_true] at h
  refine ⟨h.1.1, fun k hk => ?_⟩
  have := h.1.2 k (List.mem_range.2 hk)
  rw [getD_at hk] at this
  simp only [rowOk, Bool.and_eq_true, decide_eq_true_eq] at this
  exact this.1
theorem cSum_bd {xss : List (List Int)} (h : cOkB xss = true) : ∀ k, k ≤ xss.length → 0 ≤ cSum xss k ∧ cSum xss k ≤ 64 * k
  | 0, _ => by simp [cSum]
  | k + 1, hk => by
    have ih := cSum_bd h k (by omega)
    have h8 := (cOk_rows h).2 k (by omega)
    have hc := cs_bd (k : Int)
    rw [cSum, getD_at (by omega)]
    generalize xss[k].length = l at *
    generalize cs (k : Int) = m at *
    have h1 : 0 ≤ (l : Int) * m := Int.mul_nonneg (by omega) (by omega)
    have h2 : (l : Int) * m ≤ 8 * 8 := Int.mul_le_mul (by omega) (by omega) (by omega) (by omega)
    omega
set_option maxHeartbeats 2000000 in
theorem cacheCells_i (A : Option Addr) (c : Nat) (xss : List (List Int)) (w : World) {B : Nat} (hr : Rd2 iv w B A xss) (hn : Rows xss) :
    Calls Try.prog 17 #[.agg #[.slice A xss.length c]] w fun e w' => e = .returned (.int .i64 (cCells xss)) ∧ Below w.heap.size w w' := by
  cases hok : cOkB xss with
  | false =>
    have HR := Lib.hid (show cCells xss = 0 by simp [cCells, hok])
    go_enter Try.func17, Try.ntmps17
    go_wp2_with fail
    refine (cacheOk_i _ _ _ _ (hr.alloc _) hn _ hok).mono ?_
    rintro e w2 ⟨rfl, hb2⟩
    clear hok
    go_wp2
    go_ret
    exact ⟨by rw [HR.out]; rfl, by (repeat' (first | (with_reducible exact Below.refl _ _) | (with_reducible refine bel_alloc ?_ ?_ _) | (with_reducible refine Below.setCell ?_ ?_ _) | (with_reducible refine below_drewN ?_ _) | (with_reducible refine Below.drew ?_) | (with_reducible refine bel_step hb2 ?_ ?_) | (with_reducible exact Nat.le_refl _) | (with_reducible assumption) | omega | (simp only [World.size_alloc, World.size_setCell, World.size_drew]; omega) | (simp; omega) | (simp; done)))⟩
  | true =>
    have HR := Lib.hid (show cCells xss = cSum xss xss.length by simp [cCells, hok])
    have HBD := Lib.hid (cSum_bd hok)
    have hrow := cOk_rows hok
    have HRW := Lib.hid hrow.2
    have h4 := hrow.1
    have hl4 : xss.length ≤ 4 := by omega
    clear hrow h4
    go_enter Try.func17, Try.ntmps17
    go_wp2_with fail
    refine (cacheOk_i _ _ _ _ (hr.alloc _) hn _ hok).mono ?_
    rintro e w2 ⟨rfl, hb2⟩
    have hr2 := (hr.alloc (.cells #[.slice A xss.length c] 28)).lt.below hb2
    have q0 : w2.cell? ⟨w.heap.size, 0, none⟩ = some (.slice A xss.length c) := keep hb2 (by simp [go_sem])
    clear hok hn hr
    go_wp2
    go_loop [3, 12] (fun u v => ∃ k : Nat, k ≤ xss.length ∧ v = .int .i64 k ∧ u = .int .i64 (cSum xss k)) (fun _ v => xss.length - (intOf v).toNat)
    case atStart => exact ⟨0, Nat.zero_le _, rfl, rfl⟩
    case round =>
      obtain ⟨k, hk, rfl, rfl⟩ := hrel
      have hbd := HBD.out k hk
      by_cases hlt : k < xss.length
      · obtain ⟨b, off, A1, c1, rfl, -, hc, hrx⟩ := hr2.row hlt
        have h8 := HRW.out k hlt
        have HS := Lib.hid (show cSum xss (k + 1) = cSum xss k + (xss[k].length : Int) * cs k by rw [cSum, getD_at hlt])
        have hcsb := cs_bd (k : Int)
        have HCS := Lib.hid (fun W => classSize_i (k : Int) W)
        clear hrx
        generalize xss[k].length = l at *
        generalize cs (k : Int) = m at *
        generalize cSum xss k = t at *
        have hm0 : 0 ≤ (l : Int) * m := Int.mul_nonneg (by omega) (by omega)
        have hm1 : (l : Int) * m ≤ 8 * 8 := Int.mul_le_mul (by omega) (by omega) (by omega) (by omega)
        go_wp2_with (go_at_call 43; refine (HCS.out _).mono ?_; rintro e w3 ⟨rfl, rfl⟩)
        go_round
        case rel => exact ⟨k + 1, by omega, by go_num, by rw [HS.out]⟩
        case measure => simp [intOf]; omega
      · obtain rfl : k = xss.length := by omega
        go_wp2
        go_ret
        exact ⟨by rw [HR.out]; rfl, by (repeat' (first | (with_reducible exact Below.refl _ _) | (with_reducible refine bel_alloc ?_ ?_ _) | (with_reducible refine Below.setCell ?_ ?_ _) | (with_reducible refine below_drewN ?_ _) | (with_reducible refine Below.drew ?_) | (with_reducible refine bel_step hb2 ?_ ?_) | (with_reducible exact Nat.le_refl _) | (with_reducible assumption) | omega | (simp only [World.size_alloc, World.size_setCell, World.size_drew]; omega) | (simp; omega) | (simp; done)))⟩
set_option maxHeartbeats 4000000 in
theorem cacheCells_s (A : Option Addr) (c : Nat) (xss : List (List Int)) (w : World) {B : Nat} (hr : Rd2 iv w B A xss) (hn : Rows xss) :
    Calls Try.prog 25 #[.agg #[.slice A xss.length c]] w fun e w' => e = .returned (.int .i64 (cCells xss)) ∧ Below w.heap.size w w' := by
  cases hok : cOkB xss with
  | false =>
    have HR := Lib.hid (show cCells xss = 0 by simp [cCells, hok])
    rcases Nat.eq_zero_or_pos xss.length with h0 | h0
    · go_enter Try.func25, Try.ntmps25
      go_wp2
      go_loop [3, 4] (fun u v => v = .int .i64 0 ∧ u = .int .i64 0) (fun _ v => 0)
      case atStart => exact ⟨rfl, rfl⟩
      case round =>
        obtain ⟨rfl, rfl⟩ := hrel
        go_wp2
        go_ret
        exact ⟨by rw [HR.out]; rfl, by (repeat' (first | (with_reducible exact Below.refl _ _) | (with_reducible refine bel_alloc ?_ ?_ _) | (with_reducible refine Below.setCell ?_ ?_ _) | (with_reducible refine below_drewN ?_ _) | (with_reducible refine Below.drew ?_) | (with_reducible exact Nat.le_refl _) | (with_reducible assumption) | omega | (simp only [World.size_alloc, World.size_setCell, World.size_drew]; omega) | (simp; omega) | (simp; done)))⟩
    · have hok' := Lib.hid hok
      clear hok
      go_enter Try.func25, Try.ntmps25
      go_wp2
      have hr0 := hr.alloc (.cells #[.slice A xss.length c] 28)
      go_loopw [3, 4] (fun u v wr => v = .int .i64 0 ∧ u = .int .i64 0 ∧ wr = w.alloc (.cells #[.slice A xss.length c] 28)) (fun _ v _ => 0)
      case atStart => exact ⟨rfl, rfl, rfl⟩
      case round =>
        obtain ⟨rfl, rfl, rfl⟩ := hrel
        go_wp2_with (go_at_call 23; refine (cacheOk_s _ _ _ _ hr0 hn _ hok'.out).mono ?_; rintro e w2 ⟨rfl, hb2⟩)
        go_ret
        exact ⟨by rw [HR.out]; rfl, by (repeat' (first | (with_reducible exact Below.refl _ _) | (with_reducible refine bel_alloc ?_ ?_ _) | (with_reducible refine Below.setCell ?_ ?_ _) | (with_reducible refine below_drewN ?_ _) | (with_reducible refine Below.drew ?_) | (with_reducible refine bel_step hb2 ?_ ?_) | (with_reducible exact Nat.le_refl _) | (with_reducible assumption) | omega | (simp only [World.size_alloc, World.size_setCell, World.size_drew]; omega) | (simp; omega) | (simp; done)))⟩
  | true =>
    have HR := Lib.hid (show cCells xss = cSum xss xss.length by simp [cCells, hok])
    have HBD := Lib.hid (cSum_bd hok)
    have hrow := cOk_rows hok
    have HRW := Lib.hid hrow.2
    have h4 := hrow.1
    have hl4 : xss.length ≤ 4 := by omega
    have hok' := Lib.hid hok
    clear hrow h4 hok
    go_enter Try.func25, Try.ntmps25
    go_wp2
    have hr0 := (hr.alloc (.cells #[.slice A xss.length c] 28)).lt
    have q0 : (w.alloc (.cells #[.slice A xss.length c] 28)).cell? ⟨w.heap.size, 0, none⟩ = some (.slice A xss.length c) := by simp [go_sem]
    have hW : Below w.heap.size w (w.alloc (.cells #[.slice A xss.length c] 28)) := by (repeat' (first | (with_reducible exact Below.refl _ _) | (with_reducible refine bel_alloc ?_ ?_ _) | (with_reducible refine Below.setCell ?_ ?_ _) | (with_reducible refine below_drewN ?_ _) | (with_reducible refine Below.drew ?_) | (with_reducible exact Nat.le_refl _) | (with_reducible assumption) | omega | (simp only [World.size_alloc, World.size_setCell, World.size_drew]; omega) | (simp; omega) | (simp; done)))
    generalize w.alloc (.cells #[.slice A xss.length c] 28) = W0 at *
    clear hr
    go_loopw [3, 4] (fun u v wr => ∃ k : Nat, k ≤ xss.length ∧ v = .int .i64 k ∧ u = .int .i64 (cSum xss k) ∧ Below W0.heap.size W0 wr) (fun _ v _ => xss.length - (intOf v).toNat)
    case atStart => exact ⟨0, Nat.zero_le _, rfl, rfl, Below.refl _ _⟩
    case round =>
      obtain ⟨k, hk, rfl, rfl, hbr⟩ := hrel
      have hbd := HBD.out k hk
      have p0 := keep hbr q0
      have hr1 := hr0.below hbr
      have hp0 := lt_of_cell' p0
      by_cases hlt : k < xss.length
      · have i0 : (0 : Int) ≤ (k : Int) := by omega
        have i1 : (k : Int) < (xss.length : Int) := by omega
        go_wp2_with (go_at_call 23; refine (cacheOk_s _ _ _ _ hr1 hn _ hok'.out).mono ?_; rintro e w2 ⟨rfl, hb2⟩)
        have p2 := keep hb2 p0
        obtain ⟨b, off, A1, c1, rfl, -, hc, hrx⟩ := (hr1.below hb2).row hlt
        have h8 := HRW.out k hlt
        have HS := Lib.hid (show cSum xss (k + 1) = cSum xss k + (xss[k].length : Int) * cs k by rw [cSum, getD_at hlt])
        have hcsb := cs_bd (k : Int)
        have HCS := Lib.hid (fun W => classSize_s (k : Int) W)
        clear hrx
        generalize xss[k].length = l at *
        generalize cs (k : Int) = m at *
        generalize cSum xss k = t at *
        have hm0 : 0 ≤ (l : Int) * m := Int.mul_nonneg (by omega) (by omega)
        have hm1 : (l : Int) * m ≤ 8 * 8 := Int.mul_le_mul (by omega) (by omega) (by omega) (by omega)
        have hw1 : IntKind.i64.wrap ((l : Int) * m) = (l : Int) * m := IntWalk.i64_in _ (by omega)
        have hw2 : IntKind.i64.wrap (t + (l : Int) * m) = t + (l : Int) * m := IntWalk.i64_in _ (by omega)
        have k0 := cell_regrown p2
        have k1 := cell_regrown hc
        have cE := fun d os => Calls.regrown_of ((HCS.out (Go.Sort.grow (redrawn w2 d) os)).mono fun _ _ ⟨h1, h2⟩ => ⟨h1, by rw [h2]; exact Below.refl _ _⟩)
        refine wp_region_quiet_below (by kernel_rfl) (by kernel_rfl) ?_
        repeat (first | go_big_quiet_step (first | (with_reducible exact cE _ _)) | quiet_step (first | (with_reducible exact cE _ _)))
        refine wpQuiet_nil ?_
        intro _ hw_q
        obtain ⟨⟨dq, osq⟩, hw_q'⟩ := hw_q
        subst hw_q'
        have hbq := below_regrown w2 dq osq
        generalize Go.Sort.grow (redrawn w2 dq) osq = wq at *
        go_wp2
        go_roundw
        case rel => exact ⟨k + 1, by omega, by go_num, by rw [HS.out], by (repeat' (first | (with_reducible exact Below.refl _ _) | (with_reducible refine bel_alloc ?_ ?_ _) | (with_reducible refine Below.setCell ?_ ?_ _) | (with_reducible refine below_drewN ?_ _) | (with_reducible refine Below.drew ?_) | (with_reducible refine bel_step hbq ?_ ?_) | (with_reducible refine bel_step hb2 ?_ ?_) | (with_reducible refine bel_step hbr ?_ ?_) | (with_reducible exact Nat.le_refl _) | (with_reducible assumption) | omega | (simp only [World.size_alloc, World.size_setCell, World.size_drew]; omega) | (simp; omega) | (simp; done)))⟩
        case measure => simp [intOf]; omega
      · obtain rfl : k = xss.length := by omega
        go_wp2
        go_ret
        exact ⟨by rw [HR.out]; rfl, by (repeat' (first | (with_reducible exact Below.refl _ _) | (with_reducible refine bel_alloc ?_ ?_ _) | (with_reducible refine Below.setCell ?_ ?_ _) | (with_reducible refine below_drewN ?_ _) | (with_reducible refine Below.drew ?_) | (with_reducible refine bel_step hbr ?_ ?_) | (with_reducible refine bel_step hW ?_ ?_) | (with_reducible exact Nat.le_refl _) | (with_reducible assumption) | omega | (simp only [World.size_alloc, World.size_setCell, World.size_drew]; omega) | (simp; omega) | (simp; done)))⟩
end Go.Proofs.Ytmfomflmbhognaa
