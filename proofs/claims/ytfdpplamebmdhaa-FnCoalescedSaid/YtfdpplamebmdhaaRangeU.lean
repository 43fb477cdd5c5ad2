/- rangeIn and RangesOk, of the program and of the reference. -/
import Derived.Test.YtfdpplamebmdhaaRangeS
import Derived.Test.YtfdpplamebmdhaaNum
namespace Go.Proofs.Ytfdpplamebmdhaa
open Go.ChangeShapes Go.WideShapes Go.ChangeAt Go.RowKit
set_option linter.unusedVariables false

def rInB (pages : Int) (x : Int × Int) : Bool := btw x.2 1 pages && btw x.1 0 (pages - x.2)
theorem rInB_yes {pages a b : Int} (h : rInB pages (a, b) = true) : 1 ≤ b ∧ b ≤ pages ∧ 0 ≤ a ∧ a ≤ pages - b := by
  simp only [rInB, Bool.and_eq_true] at h
  have h1 := of_btw h.1
  have h2 := of_btw h.2
  omega
set_option maxHeartbeats 2000000 in
theorem rangeIn_i (pages a b : Int) (w : World) (hpg : -9223372036854775808 ≤ pages ∧ pages ≤ 9223372036854775807) :
    Calls Try.prog 40 #[.int .i64 pages, .agg #[.int .i64 a, .int .i64 b]] w fun e w' => e = .returned (.bool (rInB pages (a, b))) ∧ Below w.heap.size w w' := by
  cases h1 : btw b 1 pages with
  | false =>
    have HR := Lib.hid (show rInB pages (a, b) = false by simp [rInB, h1])
    go_enter Try.func40, Try.ntmps40
    go_wp2_with (go_at_call 41; refine (between_q _ _ _ _).mono ?_; rintro e w2 ⟨rfl, rfl⟩)
    go_ret
    exact ⟨by rw [HR.out]; rfl, by (repeat' (first | (with_reducible exact Below.refl _ _) | (with_reducible refine bel_alloc ?_ ?_ _) | (with_reducible refine Below.setCell ?_ ?_ _) | (with_reducible refine below_drewN ?_ _) | (with_reducible refine Below.drew ?_) | (with_reducible exact Nat.le_refl _) | (with_reducible assumption) | omega | (simp only [World.size_alloc, World.size_setCell, World.size_drew]; omega) | (simp; omega) | (simp; done)))⟩
  | true =>
    have hb := of_btw h1
    have HR := Lib.hid (show rInB pages (a, b) = btw a 0 (pages - b) by simp [rInB, h1])
    go_enter Try.func40, Try.ntmps40
    go_wp2_with (go_at_call 41; refine (between_q _ _ _ _).mono ?_; rintro e w2 ⟨rfl, rfl⟩)
    go_ret
    exact ⟨by rw [HR.out]; rfl, by (repeat' (first | (with_reducible exact Below.refl _ _) | (with_reducible refine bel_alloc ?_ ?_ _) | (with_reducible refine Below.setCell ?_ ?_ _) | (with_reducible refine below_drewN ?_ _) | (with_reducible refine Below.drew ?_) | (with_reducible exact Nat.le_refl _) | (with_reducible assumption) | omega | (simp only [World.size_alloc, World.size_setCell, World.size_drew]; omega) | (simp; omega) | (simp; done)))⟩
set_option maxHeartbeats 2000000 in
theorem rangeIn_s (pages a b : Int) (w : World) (hpg : -9223372036854775808 ≤ pages ∧ pages ≤ 9223372036854775807) :
    Calls Try.prog 38 #[.int .i64 pages, .agg #[.int .i64 a, .int .i64 b]] w fun e w' => e = .returned (.bool (rInB pages (a, b))) ∧ Below w.heap.size w w' := by
  cases h1 : btw b 1 pages with
  | false =>
    have HR := Lib.hid (show rInB pages (a, b) = false by simp [rInB, h1])
    go_enter Try.func38, Try.ntmps38
    go_wp2_with (go_at_call 39; refine (l01In_q _ _ _ _).mono ?_; rintro e w2 ⟨rfl, rfl⟩)
    go_ret
    exact ⟨by rw [HR.out]; rfl, by (repeat' (first | (with_reducible exact Below.refl _ _) | (with_reducible refine bel_alloc ?_ ?_ _) | (with_reducible refine Below.setCell ?_ ?_ _) | (with_reducible refine below_drewN ?_ _) | (with_reducible refine Below.drew ?_) | (with_reducible exact Nat.le_refl _) | (with_reducible assumption) | omega | (simp only [World.size_alloc, World.size_setCell, World.size_drew]; omega) | (simp; omega) | (simp; done)))⟩
  | true =>
    have hb := of_btw h1
    have HR := Lib.hid (show rInB pages (a, b) = btw a 0 (pages - b) by simp [rInB, h1])
    go_enter Try.func38, Try.ntmps38
    go_wp2_with (go_at_call 39; refine (l01In_q _ _ _ _).mono ?_; rintro e w2 ⟨rfl, rfl⟩)
    go_ret
    exact ⟨by rw [HR.out]; rfl, by (repeat' (first | (with_reducible exact Below.refl _ _) | (with_reducible refine bel_alloc ?_ ?_ _) | (with_reducible refine Below.setCell ?_ ?_ _) | (with_reducible refine below_drewN ?_ _) | (with_reducible refine Below.drew ?_) | (with_reducible exact Nat.le_refl _) | (with_reducible assumption) | omega | (simp only [World.size_alloc, World.size_setCell, World.size_drew]; omega) | (simp; omega) | (simp; done)))⟩
def okAt (pages : Int) (xs : List (Int × Int)) (k : Nat) : Bool :=
  rInB pages (xs.getD k (0, 0)) && (decide (k = 0) || decide ((xs.getD (k - 1) (0, 0)).1 + (xs.getD (k - 1) (0, 0)).2 < (xs.getD k (0, 0)).1))
def rOkB (pages : Int) (xs : List (Int × Int)) : Bool := (List.range xs.length).all (okAt pages xs) && btw pages 1 32
theorem rOkB_bad {pages : Int} {xs : List (Int × Int)} {k : Nat} (hk : k < xs.length) (h : okAt pages xs k = false) : rOkB pages xs = false := by
  have : (List.range xs.length).all (okAt pages xs) = false := by
    rw [List.all_eq_false]
    exact ⟨k, List.mem_range.2 hk, by simp [h]⟩
  simp [rOkB, this]
theorem rOkB_all {pages : Int} {xs : List (Int × Int)} (h : ∀ j, j < xs.length → okAt pages xs j = true) : rOkB pages xs = btw pages 1 32 := by
  have : (List.range xs.length).all (okAt pages xs) = true := by
    rw [List.all_eq_true]
    exact fun j hj => h j (List.mem_range.1 hj)
  simp [rOkB, this]
theorem okAt_in {pages : Int} {xs : List (Int × Int)} {k : Nat} (hk : k < xs.length) (h : okAt pages xs k = true) : rInB pages (xs[k].1, xs[k].2) = true := by
  simp only [okAt, Bool.and_eq_true] at h
  simpa [List.getD_eq_getElem?_getD, List.getElem?_eq_getElem hk] using h.1
theorem okAt_zero {pages : Int} {xs : List (Int × Int)} (hk : 0 < xs.length) : okAt pages xs 0 = rInB pages (xs[0].1, xs[0].2) := by
  simp [okAt, List.getD_eq_getElem?_getD, List.getElem?_eq_getElem hk]
theorem okAt_succ {pages : Int} {xs : List (Int × Int)} {k : Nat} (hk : k + 1 < xs.length) :
    okAt pages xs (k + 1) = (rInB pages (xs[k + 1].1, xs[k + 1].2) && decide ((xs[k]'(by omega)).1 + (xs[k]'(by omega)).2 < xs[k + 1].1)) := by
  simp [okAt, List.getD_eq_getElem?_getD, List.getElem?_eq_getElem hk, List.getElem?_eq_getElem (show k < xs.length by omega)]

set_option maxHeartbeats 4000000 in
theorem rangesOk_i (pages : Int) (A : Option Addr) (c : Nat) (xs : List (Int × Int)) (w : World) {B : Nat} (hr : Rd w B A (pv xs)) (hn : xs.length ≤ 1048576) (hpg : -9223372036854775808 ≤ pages ∧ pages ≤ 9223372036854775807) :
    Calls Try.prog 22 #[.int .i64 pages, .slice A xs.length c] w fun e w' => e = .returned (.bool (rOkB pages xs)) ∧ Below w.heap.size w w' := by
  have HPG := Lib.hid hpg
  clear hpg
  go_enter Try.func22, Try.ntmps22
  go_wp2
  go_loopw [9] (fun v wr => ∃ k : Nat, k ≤ xs.length ∧ v = .int .i64 k ∧ (∀ j, j < k → okAt pages xs j = true) ∧ Below w.heap.size w wr) (fun v _ => xs.length - (intOf v).toNat)
  case atStart => exact ⟨0, Nat.zero_le _, rfl, fun j hj => absurd hj (by omega), Below.refl _ _⟩
  case round =>
    obtain ⟨k, hk, rfl, hall, hbr⟩ := hrel
    have HA := Lib.hid hall
    clear hall
    by_cases hlt : k < xs.length
    · obtain ⟨b, off, rfl, -, hc0, hc1⟩ := (hr.lt.below hbr).pair hlt
      have hbl := lt_of_cell' hc0
      obtain ⟨x, hx⟩ : ∃ x, x = xs[k].1 := ⟨_, rfl⟩
      obtain ⟨y, hy⟩ : ∃ y, y = xs[k].2 := ⟨_, rfl⟩
      by_cases hk0 : k = 0
      · have HK1 := Lib.hid (show okAt pages xs k = rInB pages (x, y) by subst hk0; rw [okAt_zero hlt, hx, hy])
        rw [← hx] at hc0
        rw [← hy] at hc1
        clear hx hy
        have hnk : ¬ 0 < k := by omega
        have hnd : decide (0 < k) = false := by simpa using hk0
        clear hk0
        cases hi : rInB pages (x, y) with
        | true =>
          have HK := Lib.hid (show okAt pages xs k = true by rw [HK1.out, hi])
          go_wp2
          have BB := bel_alloc hbr (Nat.le_refl _) (.cells #[.int .i64 x, .int .i64 y] 42)
          have z0 : (wr.alloc (.cells #[.int .i64 x, .int .i64 y] 42)).cell? ⟨wr.heap.size, 0, none⟩ = some (.int .i64 x) := by simp [go_sem]
          have z1 : (wr.alloc (.cells #[.int .i64 x, .int .i64 y] 42)).cell? ⟨wr.heap.size, 1, none⟩ = some (.int .i64 y) := by simp [go_sem]
          clear hc0 hc1 hbl hbr
          generalize wr.alloc (.cells #[.int .i64 x, .int .i64 y] 42) = W at *
          have k0 := cell_regrown z0
          have k1 := cell_regrown z1
          have cE : ∀ d os, Calls Try.prog 40 #[.int .i64 pages, .agg #[.int .i64 x, .int .i64 y]] (Go.Sort.grow (redrawn W d) os) fun e w'' => e = .returned (.bool true) ∧ ∃ p : Regrown, w'' = Go.Sort.grow (redrawn W p.d) p.os := fun d os => Calls.regrown_of (by
            have h := rangeIn_i pages x y (Go.Sort.grow (redrawn W d) os) HPG.out
            rw [hi] at h
            exact h)
          refine wp_region_quiet_below (by kernel_rfl) (by kernel_rfl) ?_
          repeat (first | go_big_quiet_step (first | (with_reducible exact cE _ _)) | quiet_step (first | (with_reducible exact cE _ _)))
          refine wpQuiet_nil ?_
          intro _ hw_q
          obtain ⟨⟨dq, osq⟩, hw_q'⟩ := hw_q
          subst hw_q'
          have hbq := below_regrown W dq osq
          generalize Go.Sort.grow (redrawn W dq) osq = wq at *
          go_wp2
          go_roundw
          case rel =>
            refine ⟨k + 1, by omega, by go_num, fun j hj => ?_, bel_step hbq BB (Nat.le_refl _)⟩
            by_cases e : j = k
            · subst e; exact HK.out
            · exact HA.out j (by omega)
          case measure => simp [intOf]; omega
        | false =>
          have HR := Lib.hid (rOkB_bad hlt (show okAt pages xs k = false by rw [HK1.out, hi]))
          go_wp2
          have BB := bel_alloc hbr (Nat.le_refl _) (.cells #[.int .i64 x, .int .i64 y] 42)
          have z0 : (wr.alloc (.cells #[.int .i64 x, .int .i64 y] 42)).cell? ⟨wr.heap.size, 0, none⟩ = some (.int .i64 x) := by simp [go_sem]
          have z1 : (wr.alloc (.cells #[.int .i64 x, .int .i64 y] 42)).cell? ⟨wr.heap.size, 1, none⟩ = some (.int .i64 y) := by simp [go_sem]
          clear hc0 hc1 hbl hbr
          generalize wr.alloc (.cells #[.int .i64 x, .int .i64 y] 42) = W at *
          have k0 := cell_regrown z0
          have k1 := cell_regrown z1
          have cE : ∀ d os, Calls Try.prog 40 #[.int .i64 pages, .agg #[.int .i64 x, .int .i64 y]] (Go.Sort.grow (redrawn W d) os) fun e w'' => e = .returned (.bool false) ∧ ∃ p : Regrown, w'' = Go.Sort.grow (redrawn W p.d) p.os := fun d os => Calls.regrown_of (by
            have h := rangeIn_i pages x y (Go.Sort.grow (redrawn W d) os) HPG.out
            rw [hi] at h
            exact h)
          refine wp_region_quiet_below (by kernel_rfl) (by kernel_rfl) ?_
          repeat (first | go_big_quiet_step (first | (with_reducible exact cE _ _)) | quiet_step (first | (with_reducible exact cE _ _)))
          refine wpQuiet_nil ?_
          intro _ hw_q
          obtain ⟨⟨dq, osq⟩, hw_q'⟩ := hw_q
          subst hw_q'
          have hbq := below_regrown W dq osq
          generalize Go.Sort.grow (redrawn W dq) osq = wq at *
          go_wp2
          go_ret
          exact ⟨by rw [HR.out]; rfl, bel_step hbq BB (Nat.le_refl _)⟩
      · obtain ⟨b', off', hA, -, hd0, hd1⟩ := (hr.lt.below hbr).pair (k := k - 1) (by omega)
        injection hA with hA
        injection hA with hA1 hA2
        subst hA1 hA2
        obtain ⟨px, hpx⟩ : ∃ x, x = (xs[k - 1]'(by omega)).1 := ⟨_, rfl⟩
        obtain ⟨py, hpy⟩ : ∃ y, y = (xs[k - 1]'(by omega)).2 := ⟨_, rfl⟩
        have hpi := okAt_in (show k - 1 < xs.length by omega) (HA.out (k - 1) (by omega))
        have HK1 := Lib.hid (show okAt pages xs k = (rInB pages (x, y) && decide (px + py < x)) by
          obtain ⟨k', rfl⟩ : ∃ k', k = k' + 1 := ⟨k - 1, by omega⟩
          rw [okAt_succ hlt, hx, hy, hpx, hpy]
          rfl)
        rw [← hx] at hc0
        rw [← hy] at hc1
        rw [← hpx] at hd0 hpi
        rw [← hpy] at hd1 hpi
        clear hx hy hpx hpy
        have hpb := rInB_yes hpi
        have hpg2 := HPG.out
        have hnk : 0 < k := by omega
        have hnd : decide (0 < k) = true := by simpa using hnk
        obtain ⟨m, hm⟩ : ∃ m, m = k - 1 := ⟨_, rfl⟩
        rw [← hm] at hd0 hd1
        have hs1 : IntKind.i64.wrap ((k : Int) - 1) = (m : Int) := by rw [IntWalk.i64_in _ (by omega)]; omega
        have hs2 : m < xs.length := by omega
        clear hm
        have hs5 : IntKind.i64.wrap (px + py) = px + py := IntWalk.i64_in _ (by omega)
        clear hpi
        cases hi : rInB pages (x, y) with
        | true =>
          by_cases hlt2 : px + py < x
          · have HK := Lib.hid (show okAt pages xs k = true by rw [HK1.out, hi]; simpa using hlt2)
            have hn2 : decide (x ≤ px + py) = false := by simp; omega
            go_wp2
            have BB := bel_alloc hbr (Nat.le_refl _) (.cells #[.int .i64 x, .int .i64 y] 42)
            have z0 : (wr.alloc (.cells #[.int .i64 x, .int .i64 y] 42)).cell? ⟨wr.heap.size, 0, none⟩ = some (.int .i64 x) := by simp [go_sem]
            have z1 : (wr.alloc (.cells #[.int .i64 x, .int .i64 y] 42)).cell? ⟨wr.heap.size, 1, none⟩ = some (.int .i64 y) := by simp [go_sem]
            replace hd0 := cell_al hd0 (.cells #[.int .i64 x, .int .i64 y] 42)
            replace hd1 := cell_al hd1 (.cells #[.int .i64 x, .int .i64 y] 42)
            clear hc0 hc1 hbl hbr
            generalize wr.alloc (.cells #[.int .i64 x, .int .i64 y] 42) = W at *
            have k0 := cell_regrown z0
            have k1 := cell_regrown z1
            have k2 := cell_regrown hd0
            have k3 := cell_regrown hd1
            have cE : ∀ d os, Calls Try.prog 40 #[.int .i64 pages, .agg #[.int .i64 x, .int .i64 y]] (Go.Sort.grow (redrawn W d) os) fun e w'' => e = .returned (.bool true) ∧ ∃ p : Regrown, w'' = Go.Sort.grow (redrawn W p.d) p.os := fun d os => Calls.regrown_of (by
              have h := rangeIn_i pages x y (Go.Sort.grow (redrawn W d) os) HPG.out
              rw [hi] at h
              exact h)
            refine wp_region_quiet_below (by kernel_rfl) (by kernel_rfl) ?_
            repeat (first | go_big_quiet_step (first | (with_reducible exact cE _ _)) | quiet_step (first | (with_reducible exact cE _ _)))
            refine wpQuiet_nil ?_
            intro _ hw_q
            obtain ⟨⟨dq, osq⟩, hw_q'⟩ := hw_q
            subst hw_q'
            have hbq := below_regrown W dq osq
            generalize Go.Sort.grow (redrawn W dq) osq = wq at *
            go_wp2
            go_roundw
            case rel =>
              refine ⟨k + 1, by omega, by go_num, fun j hj => ?_, bel_step hbq BB (Nat.le_refl _)⟩
              by_cases e : j = k
              · subst e; exact HK.out
              · exact HA.out j (by omega)
            case measure => simp [intOf]; omega
          · have HR := Lib.hid (rOkB_bad hlt (show okAt pages xs k = false by rw [HK1.out, hi]; simpa using hlt2))
            have hn2 : decide (x ≤ px + py) = true := by simp; omega
            go_wp2
            have BB := bel_alloc hbr (Nat.le_refl _) (.cells #[.int .i64 x, .int .i64 y] 42)
            have z0 : (wr.alloc (.cells #[.int .i64 x, .int .i64 y] 42)).cell? ⟨wr.heap.size, 0, none⟩ = some (.int .i64 x) := by simp [go_sem]
            have z1 : (wr.alloc (.cells #[.int .i64 x, .int .i64 y] 42)).cell? ⟨wr.heap.size, 1, none⟩ = some (.int .i64 y) := by simp [go_sem]
            replace hd0 := cell_al hd0 (.cells #[.int .i64 x, .int .i64 y] 42)
            replace hd1 := cell_al hd1 (.cells #[.int .i64 x, .int .i64 y] 42)
            clear hc0 hc1 hbl hbr
            generalize wr.alloc (.cells #[.int .i64 x, .int .i64 y] 42) = W at *
            have k0 := cell_regrown z0
            have k1 := cell_regrown z1
            have k2 := cell_regrown hd0
            have k3 := cell_regrown hd1
            have cE : ∀ d os, Calls Try.prog 40 #[.int .i64 pages, .agg #[.int .i64 x, .int .i64 y]] (Go.Sort.grow (redrawn W d) os) fun e w'' => e = .returned (.bool true) ∧ ∃ p : Regrown, w'' = Go.Sort.grow (redrawn W p.d) p.os := fun d os => Calls.regrown_of (by
              have h := rangeIn_i pages x y (Go.Sort.grow (redrawn W d) os) HPG.out
              rw [hi] at h
              exact h)
            refine wp_region_quiet_below (by kernel_rfl) (by kernel_rfl) ?_
            repeat (first | go_big_quiet_step (first | (with_reducible exact cE _ _)) | quiet_step (first | (with_reducible exact cE _ _)))
            refine wpQuiet_nil ?_
            intro _ hw_q
            obtain ⟨⟨dq, osq⟩, hw_q'⟩ := hw_q
            subst hw_q'
            have hbq := below_regrown W dq osq
            generalize Go.Sort.grow (redrawn W dq) osq = wq at *
            go_wp2
            go_ret
            exact ⟨by rw [HR.out]; rfl, bel_step hbq BB (Nat.le_refl _)⟩
        | false =>
          have HR := Lib.hid (rOkB_bad hlt (show okAt pages xs k = false by rw [HK1.out, hi]; rfl))
          go_wp2
          have BB := bel_alloc hbr (Nat.le_refl _) (.cells #[.int .i64 x, .int .i64 y] 42)
          have z0 : (wr.alloc (.cells #[.int .i64 x, .int .i64 y] 42)).cell? ⟨wr.heap.size, 0, none⟩ = some (.int .i64 x) := by simp [go_sem]
          have z1 : (wr.alloc (.cells #[.int .i64 x, .int .i64 y] 42)).cell? ⟨wr.heap.size, 1, none⟩ = some (.int .i64 y) := by simp [go_sem]
          replace hd0 := cell_al hd0 (.cells #[.int .i64 x, .int .i64 y] 42)
          replace hd1 := cell_al hd1 (.cells #[.int .i64 x, .int .i64 y] 42)
          clear hc0 hc1 hbl hbr
          generalize wr.alloc (.cells #[.int .i64 x, .int .i64 y] 42) = W at *
          have k0 := cell_regrown z0
          have k1 := cell_regrown z1
          have k2 := cell_regrown hd0
          have k3 := cell_regrown hd1
          have cE : ∀ d os, Calls Try.prog 40 #[.int .i64 pages, .agg #[.int .i64 x, .int .i64 y]] (Go.Sort.grow (redrawn W d) os) fun e w'' => e = .returned (.bool false) ∧ ∃ p : Regrown, w'' = Go.Sort.grow (redrawn W p.d) p.os := fun d os => Calls.regrown_of (by
            have h := rangeIn_i pages x y (Go.Sort.grow (redrawn W d) os) HPG.out
            rw [hi] at h
            exact h)
          refine wp_region_quiet_below (by kernel_rfl) (by kernel_rfl) ?_
          repeat (first | go_big_quiet_step (first | (with_reducible exact cE _ _)) | quiet_step (first | (with_reducible exact cE _ _)))
          refine wpQuiet_nil ?_
          intro _ hw_q
          obtain ⟨⟨dq, osq⟩, hw_q'⟩ := hw_q
          subst hw_q'
          have hbq := below_regrown W dq osq
          generalize Go.Sort.grow (redrawn W dq) osq = wq at *
          go_wp2
          go_ret
          exact ⟨by rw [HR.out]; rfl, bel_step hbq BB (Nat.le_refl _)⟩
    · have HR := Lib.hid (rOkB_all (pages := pages) (xs := xs) fun j hj => HA.out j (by omega))
      go_wp2_with (go_at_call 41; refine (between_q _ _ _ _).mono ?_; rintro e w2 ⟨rfl, rfl⟩)
      go_ret
      exact ⟨by rw [HR.out]; rfl, hbr⟩
end Go.Proofs.Ytfdpplamebmdhaa
