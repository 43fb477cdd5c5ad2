/- FramesOk and TableOk, of the program and of the reference. -/
import Derived.Test.YtljholnnhogdkaaMacA
import Derived.Test.YtljholnnhogdkaaNum
namespace Go.Proofs.Ytljholnnhogdkaa
open Go.ChangeShapes Go.WideShapes Go.ChangeAt Go.RowKit
set_option linter.unusedVariables false
set_option linter.unusedSimpArgs false
set_option maxRecDepth 100000 in
set_option maxHeartbeats 8000000 in
theorem framesOk_i (A : Option Addr) (c : Nat) (B : Option Addr) (d : Nat) (xss : List (List Int)) (us : List Bool) (w : World) {B1 B2 : Nat} (hr : Rd2 iv w B1 A xss) (hs : Rd w B2 B (bl us)) (hn : Rows xss) (hm : us.length ≤ 1048576) (v : Bool) (hv : fOkB xss us = v) :
    Calls Try.prog 87 #[.agg #[.slice A xss.length c, .slice B us.length d]] w fun e w' => e = .returned (.bool v) ∧ Below w.heap.size w w' := by
  subst hv
  have hn1 := hn.1
  have HM := Lib.hid hn.2
  clear hn
  cases hbn : btw (xss.length : Int) 1 32 with
  | false =>
    have HR := Lib.hid (fOk_n (us := us) hbn)
    go_enter Try.func87, Try.ntmps87
    go_wp2_with (go_at_call 32; refine (between_q _ _ _ _).mono ?_; rintro e w2 ⟨rfl, rfl⟩)
    go_ret
    exact ⟨by rw [HR.out]; rfl, by (repeat' (first | (with_reducible exact Below.refl _ _) | (with_reducible refine bel_alloc ?_ ?_ _) | (with_reducible refine Below.setCell ?_ ?_ _) | (with_reducible refine below_drewN ?_ _) | (with_reducible refine Below.drew ?_) | (with_reducible exact Nat.le_refl _) | (with_reducible assumption) | omega | (simp only [World.size_alloc, World.size_setCell, World.size_drew]; omega) | (simp; omega) | (simp; done)))⟩
  | true =>
  by_cases hl : us.length = xss.length
  rotate_left
  · have HR := Lib.hid (fOk_len hl)
    have hlb : ((us.length : Int) != (xss.length : Int)) = true := by simp; omega
    go_enter Try.func87, Try.ntmps87
    go_wp2_with (go_at_call 32; refine (between_q _ _ _ _).mono ?_; rintro e w2 ⟨rfl, rfl⟩)
    go_ret
    exact ⟨by rw [HR.out]; rfl, by (repeat' (first | (with_reducible exact Below.refl _ _) | (with_reducible refine bel_alloc ?_ ?_ _) | (with_reducible refine Below.setCell ?_ ?_ _) | (with_reducible refine below_drewN ?_ _) | (with_reducible refine Below.drew ?_) | (with_reducible exact Nat.le_refl _) | (with_reducible assumption) | omega | (simp only [World.size_alloc, World.size_setCell, World.size_drew]; omega) | (simp; omega) | (simp; done)))⟩
  have hn32 := of_btw hbn
  have HBN := Lib.hid hbn
  have hlb : ((us.length : Int) != (xss.length : Int)) = false := by simp; omega
  have HL := Lib.hid hl
  clear hl
  go_enter Try.func87, Try.ntmps87
  go_wp2_with (go_at_call 32; refine (between_q _ _ _ _).mono ?_; rintro e w2 ⟨rfl, rfl⟩)
  have hr0 := hr.alloc (.cells #[.slice A xss.length c, .slice B us.length d] 42)
  have hs0 := hs.alloc (.cells #[.slice A xss.length c, .slice B us.length d] 42)
  clear hr hs hbn
  go_loop [24] (fun v => ∃ k : Nat, k ≤ xss.length ∧ v = .int .i64 k ∧ (∀ i (hi : i < xss.length) (hi2 : i < us.length), i < k → fRow us[i] xss[i] = true)) (fun v => xss.length - (intOf v).toNat)
  case atStart => exact ⟨0, Nat.zero_le _, rfl, fun i _ _ hi => absurd hi (by omega)⟩
  case round =>
    obtain ⟨k, hk, rfl, hall⟩ := hrel
    have HA := Lib.hid hall
    clear hall
    by_cases hlt : k < xss.length
    · have hlt2 : k < us.length := by have := HL.out; omega
      obtain ⟨b, off, A1, c1, rfl, -, hc, hrx⟩ := hr0.row hlt
      obtain ⟨b2, off2, rfl, -, hu⟩ := hs0.bool hlt2
      have hlm := HM.out _ (List.getElem_mem hlt)
      have HRW := Lib.hid (show fRow us[k] xss[k] = false → fOkB xss us = false from fOk_row hlt hlt2)
      have HSTEP := Lib.hid (show fRow us[k] xss[k] = true → ∀ i (hi : i < xss.length) (hi2 : i < us.length), i < k + 1 → fRow us[i] xss[i] = true from fun h i hi hi2 hik => by
        by_cases e : i = k
        · subst e; exact h
        · exact HA.out i hi hi2 (by omega))
      generalize xss[k] = qs at *
      generalize us[k] = u at *
      have i0 : (0 : Int) ≤ (k : Int) := by omega
      have i1 : (k : Int) < (xss.length : Int) := by omega
      have i2 : (k : Int) < (us.length : Int) := by omega
      by_cases h16 : qs.length = 16
      rotate_left
      · have HR := Lib.hid (HRW.out (fRow_len h16))
        have h16b : ((qs.length : Int) != 16) = true := by simp; omega
        clear hrx
        generalize qs.length = ql at *
        go_wp2
        go_ret
        exact ⟨by rw [HR.out]; rfl, by (repeat' (first | (with_reducible exact Below.refl _ _) | (with_reducible refine bel_alloc ?_ ?_ _) | (with_reducible refine Below.setCell ?_ ?_ _) | (with_reducible refine below_drewN ?_ _) | (with_reducible refine Below.drew ?_) | (with_reducible exact Nat.le_refl _) | (with_reducible assumption) | omega | (simp only [World.size_alloc, World.size_setCell, World.size_drew]; omega) | (simp; omega) | (simp; done)))⟩
      have h16b : ((qs.length : Int) != 16) = false := by simp; omega
      have H16 := Lib.hid h16
      clear h16
      go_wp2
      go_loop [34] (fun v => ∃ j : Nat, j ≤ 16 ∧ v = .int .i64 j ∧ (∀ i (hi : i < qs.length), i < j → (btw qs[i] 0 999 && (decide (qs[i] = 0) || u)) = true)) (fun v => 16 - (intOf v).toNat)
      case atStart => exact ⟨0, Nat.zero_le _, rfl, fun i _ hi => absurd hi (by omega)⟩
      case round =>
        obtain ⟨j, hj, rfl, hall⟩ := hrel
        have HA2 := Lib.hid hall
        clear hall
        have j0 : (0 : Int) ≤ (j : Int) := by omega
        by_cases hj16 : j < 16
        · have hjl : j < qs.length := by have := H16.out; omega
          obtain ⟨b3, off3, rfl, -, hx0⟩ := hrx.int hjl
          have j1 : (j : Int) < (qs.length : Int) := by omega
          have j2 : (j : Int) < 16 := by omega
          have HBAD := Lib.hid (show (btw qs[j] 0 999 && (decide (qs[j] = 0) || u)) = false → fOkB xss us = false from fun h => HRW.out (fRow_cell hjl h))
          have HOK := Lib.hid (show (btw qs[j] 0 999 && (decide (qs[j] = 0) || u)) = true → ∀ i (hi : i < qs.length), i < j + 1 → (btw qs[i] 0 999 && (decide (qs[i] = 0) || u)) = true from fun h i hi hij => by
            by_cases e : i = j
            · subst e; exact h
            · exact HA2.out i hi (by omega))
          generalize qs[j] = x at *
          cases hb : btw x 0 999 with
          | false =>
            have HR := Lib.hid (HBAD.out (by rw [hb]; rfl))
            go_wp2_with (go_at_call 32; refine (between_q _ _ _ _).mono ?_; rintro e w2 ⟨rfl, rfl⟩)
            go_ret
            exact ⟨by rw [HR.out]; rfl, by (repeat' (first | (with_reducible exact Below.refl _ _) | (with_reducible refine bel_alloc ?_ ?_ _) | (with_reducible refine Below.setCell ?_ ?_ _) | (with_reducible refine below_drewN ?_ _) | (with_reducible refine Below.drew ?_) | (with_reducible exact Nat.le_refl _) | (with_reducible assumption) | omega | (simp only [World.size_alloc, World.size_setCell, World.size_drew]; omega) | (simp; omega) | (simp; done)))⟩
          | true =>
            by_cases hx : x = 0
            · have HC := Lib.hid (HOK.out (by rw [hb, hx]; rfl))
              have hxb : (x != 0) = false := by simp [hx]
              clear hx
              cases u
              all_goals
                go_wp2_with (go_at_call 32; refine (between_q _ _ _ _).mono ?_; rintro e w2 ⟨rfl, rfl⟩)
                go_round
                case rel => exact ⟨j + 1, by omega, by go_num, HC.out⟩
                case measure => simp [intOf]; omega
            · have hxb : (x != 0) = true := by simp [hx]
              cases u with
              | false =>
                have HR := Lib.hid (HBAD.out (by simp [hx]))
                clear hx
                go_wp2_with (go_at_call 32; refine (between_q _ _ _ _).mono ?_; rintro e w2 ⟨rfl, rfl⟩)
                go_ret
                exact ⟨by rw [HR.out]; rfl, by (repeat' (first | (with_reducible exact Below.refl _ _) | (with_reducible refine bel_alloc ?_ ?_ _) | (with_reducible refine Below.setCell ?_ ?_ _) | (with_reducible refine below_drewN ?_ _) | (with_reducible refine Below.drew ?_) | (with_reducible exact Nat.le_refl _) | (with_reducible assumption) | omega | (simp only [World.size_alloc, World.size_setCell, World.size_drew]; omega) | (simp; omega) | (simp; done)))⟩
              | true =>
                have HC := Lib.hid (HOK.out (by rw [hb]; simp))
                clear hx
                go_wp2_with (go_at_call 32; refine (between_q _ _ _ _).mono ?_; rintro e w2 ⟨rfl, rfl⟩)
                go_round
                case rel => exact ⟨j + 1, by omega, by go_num, HC.out⟩
                case measure => simp [intOf]; omega
        · have hje : j = 16 := by omega
          subst hje
          have HC := Lib.hid (HSTEP.out (fRow_all H16.out fun i hi => HA2.out i hi (by have := H16.out; omega)))
          have h16c : (qs.length : Int) = 16 := by have := H16.out; omega
          have h16n : ¬ (16 : Int) < (qs.length : Int) := by omega
          clear h16c
          go_wp2
          go_round
          case rel => exact ⟨k + 1, by omega, by go_num, HC.out⟩
          case measure => simp [intOf]; omega
    · have HR := Lib.hid (fOk_all HBN.out HL.out fun i hi hi2 => HA.out i hi hi2 (by omega))
      go_wp2
      go_ret
      exact ⟨by rw [HR.out]; rfl, by (repeat' (first | (with_reducible exact Below.refl _ _) | (with_reducible refine bel_alloc ?_ ?_ _) | (with_reducible refine Below.setCell ?_ ?_ _) | (with_reducible refine below_drewN ?_ _) | (with_reducible refine Below.drew ?_) | (with_reducible exact Nat.le_refl _) | (with_reducible assumption) | omega | (simp only [World.size_alloc, World.size_setCell, World.size_drew]; omega) | (simp; omega) | (simp; done)))⟩
set_option maxRecDepth 100000 in
set_option maxHeartbeats 8000000 in
theorem framesOk_s (A : Option Addr) (c : Nat) (B : Option Addr) (d : Nat) (xss : List (List Int)) (us : List Bool) (w : World) {B1 B2 : Nat} (hr : Rd2 iv w B1 A xss) (hs : Rd w B2 B (bl us)) (hn : Rows xss) (hm : us.length ≤ 1048576) (v : Bool) (hv : fOkB xss us = v) :
    Calls Try.prog 76 #[.agg #[.slice A xss.length c, .slice B us.length d]] w fun e w' => e = .returned (.bool v) ∧ Below w.heap.size w w' := by
  subst hv
  have hn1 := hn.1
  have HM := Lib.hid hn.2
  clear hn
  cases hbn : btw (xss.length : Int) 1 32 with
  | false =>
    have HR := Lib.hid (fOk_n (us := us) hbn)
    go_enter Try.func76, Try.ntmps76
    go_wp2_with (go_at_call 30; refine (l01In_q _ _ _ _).mono ?_; rintro e w2 ⟨rfl, rfl⟩)
    go_ret
    exact ⟨by rw [HR.out]; rfl, by (repeat' (first | (with_reducible exact Below.refl _ _) | (with_reducible refine bel_alloc ?_ ?_ _) | (with_reducible refine Below.setCell ?_ ?_ _) | (with_reducible refine below_drewN ?_ _) | (with_reducible refine Below.drew ?_) | (with_reducible exact Nat.le_refl _) | (with_reducible assumption) | omega | (simp only [World.size_alloc, World.size_setCell, World.size_drew]; omega) | (simp; omega) | (simp; done)))⟩
  | true =>
  by_cases hl : us.length = xss.length
  rotate_left
  · have HR := Lib.hid (fOk_len hl)
    have hlb : ((us.length : Int) != (xss.length : Int)) = true := by simp; omega
    go_enter Try.func76, Try.ntmps76
    go_wp2_with (go_at_call 30; refine (l01In_q _ _ _ _).mono ?_; rintro e w2 ⟨rfl, rfl⟩)
    go_ret
    exact ⟨by rw [HR.out]; rfl, by (repeat' (first | (with_reducible exact Below.refl _ _) | (with_reducible refine bel_alloc ?_ ?_ _) | (with_reducible refine Below.setCell ?_ ?_ _) | (with_reducible refine below_drewN ?_ _) | (with_reducible refine Below.drew ?_) | (with_reducible exact Nat.le_refl _) | (with_reducible assumption) | omega | (simp only [World.size_alloc, World.size_setCell, World.size_drew]; omega) | (simp; omega) | (simp; done)))⟩
  have hn32 := of_btw hbn
  have HBN := Lib.hid hbn
  have hlb : ((us.length : Int) != (xss.length : Int)) = false := by simp; omega
  have HL := Lib.hid hl
  clear hl
  go_enter Try.func76, Try.ntmps76
  go_wp2_with (go_at_call 30; refine (l01In_q _ _ _ _).mono ?_; rintro e w2 ⟨rfl, rfl⟩)
  have hr0 := hr.alloc (.cells #[.slice A xss.length c, .slice B us.length d] 42)
  have hs0 := hs.alloc (.cells #[.slice A xss.length c, .slice B us.length d] 42)
  clear hr hs hbn
  go_loop [3] (fun v => ∃ k : Nat, k ≤ xss.length ∧ v = .int .i64 k ∧ (∀ i (hi : i < xss.length) (hi2 : i < us.length), i < k → fRow us[i] xss[i] = true)) (fun v => xss.length - (intOf v).toNat)
  case atStart => exact ⟨0, Nat.zero_le _, rfl, fun i _ _ hi => absurd hi (by omega)⟩
  case round =>
    obtain ⟨k, hk, rfl, hall⟩ := hrel
    have HA := Lib.hid hall
    clear hall
    by_cases hlt : k < xss.length
    · have hlt2 : k < us.length := by have := HL.out; omega
      obtain ⟨b, off, A1, c1, rfl, -, hc, hrx⟩ := hr0.row hlt
      obtain ⟨b2, off2, rfl, -, hu⟩ := hs0.bool hlt2
      have hlm := HM.out _ (List.getElem_mem hlt)
      have HRW := Lib.hid (show fRow us[k] xss[k] = false → fOkB xss us = false from fOk_row hlt hlt2)
      have HSTEP := Lib.hid (show fRow us[k] xss[k] = true → ∀ i (hi : i < xss.length) (hi2 : i < us.length), i < k + 1 → fRow us[i] xss[i] = true from fun h i hi hi2 hik => by
        by_cases e : i = k
        · subst e; exact h
        · exact HA.out i hi hi2 (by omega))
      generalize xss[k] = qs at *
      generalize us[k] = u at *
      have i0 : (0 : Int) ≤ (k : Int) := by omega
      have i1 : (k : Int) < (xss.length : Int) := by omega
      have i2 : (k : Int) < (us.length : Int) := by omega
      by_cases h16 : qs.length = 16
      rotate_left
      · have HR := Lib.hid (HRW.out (fRow_len h16))
        have h16b : ((qs.length : Int) != 16) = true := by simp; omega
        clear hrx
        generalize qs.length = ql at *
        go_wp2
        go_ret
        exact ⟨by rw [HR.out]; rfl, by (repeat' (first | (with_reducible exact Below.refl _ _) | (with_reducible refine bel_alloc ?_ ?_ _) | (with_reducible refine Below.setCell ?_ ?_ _) | (with_reducible refine below_drewN ?_ _) | (with_reducible refine Below.drew ?_) | (with_reducible exact Nat.le_refl _) | (with_reducible assumption) | omega | (simp only [World.size_alloc, World.size_setCell, World.size_drew]; omega) | (simp; omega) | (simp; done)))⟩
      have h16b : ((qs.length : Int) != 16) = false := by simp; omega
      have H16 := Lib.hid h16
      clear h16
      go_wp2
      go_loop [4] (fun v => ∃ j : Nat, j ≤ 16 ∧ v = .int .i64 j ∧ (∀ i (hi : i < qs.length), i < j → (btw qs[i] 0 999 && (decide (qs[i] = 0) || u)) = true)) (fun v => 16 - (intOf v).toNat)
      case atStart => exact ⟨0, Nat.zero_le _, rfl, fun i _ hi => absurd hi (by omega)⟩
      case round =>
        obtain ⟨j, hj, rfl, hall⟩ := hrel
        have HA2 := Lib.hid hall
        clear hall
        have j0 : (0 : Int) ≤ (j : Int) := by omega
        by_cases hj16 : j < 16
        · have hjl : j < qs.length := by have := H16.out; omega
          obtain ⟨b3, off3, rfl, -, hx0⟩ := hrx.int hjl
          have j1 : (j : Int) < (qs.length : Int) := by omega
          have j2 : (j : Int) < 16 := by omega
          have HBAD := Lib.hid (show (btw qs[j] 0 999 && (decide (qs[j] = 0) || u)) = false → fOkB xss us = false from fun h => HRW.out (fRow_cell hjl h))
          have HOK := Lib.hid (show (btw qs[j] 0 999 && (decide (qs[j] = 0) || u)) = true → ∀ i (hi : i < qs.length), i < j + 1 → (btw qs[i] 0 999 && (decide (qs[i] = 0) || u)) = true from fun h i hi hij => by
            by_cases e : i = j
            · subst e; exact h
            · exact HA2.out i hi (by omega))
          generalize qs[j] = x at *
          cases hb : btw x 0 999 with
          | false =>
            have HR := Lib.hid (HBAD.out (by rw [hb]; rfl))
            go_wp2_with (go_at_call 30; refine (l01In_q _ _ _ _).mono ?_; rintro e w2 ⟨rfl, rfl⟩)
            go_ret
            exact ⟨by rw [HR.out]; rfl, by (repeat' (first | (with_reducible exact Below.refl _ _) | (with_reducible refine bel_alloc ?_ ?_ _) | (with_reducible refine Below.setCell ?_ ?_ _) | (with_reducible refine below_drewN ?_ _) | (with_reducible refine Below.drew ?_) | (with_reducible exact Nat.le_refl _) | (with_reducible assumption) | omega | (simp only [World.size_alloc, World.size_setCell, World.size_drew]; omega) | (simp; omega) | (simp; done)))⟩
          | true =>
            by_cases hx : x = 0
            · have HC := Lib.hid (HOK.out (by rw [hb, hx]; rfl))
              have hxb : (x != 0) = false := by simp [hx]
              clear hx
              cases u
              all_goals
                go_wp2_with (go_at_call 30; refine (l01In_q _ _ _ _).mono ?_; rintro e w2 ⟨rfl, rfl⟩)
                go_round
                case rel => exact ⟨j + 1, by omega, by go_num, HC.out⟩
                case measure => simp [intOf]; omega
            · have hxb : (x != 0) = true := by simp [hx]
              cases u with
              | false =>
                have HR := Lib.hid (HBAD.out (by simp [hx]))
                clear hx
                go_wp2_with (go_at_call 30; refine (l01In_q _ _ _ _).mono ?_; rintro e w2 ⟨rfl, rfl⟩)
                go_ret
                exact ⟨by rw [HR.out]; rfl, by (repeat' (first | (with_reducible exact Below.refl _ _) | (with_reducible refine bel_alloc ?_ ?_ _) | (with_reducible refine Below.setCell ?_ ?_ _) | (with_reducible refine below_drewN ?_ _) | (with_reducible refine Below.drew ?_) | (with_reducible exact Nat.le_refl _) | (with_reducible assumption) | omega | (simp only [World.size_alloc, World.size_setCell, World.size_drew]; omega) | (simp; omega) | (simp; done)))⟩
              | true =>
                have HC := Lib.hid (HOK.out (by rw [hb]; simp))
                clear hx
                go_wp2_with (go_at_call 30; refine (l01In_q _ _ _ _).mono ?_; rintro e w2 ⟨rfl, rfl⟩)
                go_round
                case rel => exact ⟨j + 1, by omega, by go_num, HC.out⟩
                case measure => simp [intOf]; omega
        · have hje : j = 16 := by omega
          subst hje
          have HC := Lib.hid (HSTEP.out (fRow_all H16.out fun i hi => HA2.out i hi (by have := H16.out; omega)))
          have h16c : (qs.length : Int) = 16 := by have := H16.out; omega
          have h16n : ¬ (16 : Int) < (qs.length : Int) := by omega
          clear h16c
          go_wp2
          go_round
          case rel => exact ⟨k + 1, by omega, by go_num, HC.out⟩
          case measure => simp [intOf]; omega
    · have HR := Lib.hid (fOk_all HBN.out HL.out fun i hi hi2 => HA.out i hi hi2 (by omega))
      go_wp2
      go_ret
      exact ⟨by rw [HR.out]; rfl, by (repeat' (first | (with_reducible exact Below.refl _ _) | (with_reducible refine bel_alloc ?_ ?_ _) | (with_reducible refine Below.setCell ?_ ?_ _) | (with_reducible refine below_drewN ?_ _) | (with_reducible refine Below.drew ?_) | (with_reducible exact Nat.le_refl _) | (with_reducible assumption) | omega | (simp only [World.size_alloc, World.size_setCell, World.size_drew]; omega) | (simp; omega) | (simp; done)))⟩
set_option maxRecDepth 100000 in
set_option maxHeartbeats 8000000 in
theorem tableOk_i (A : Option Addr) (c : Nat) (es : List En) (n : Int) (w : World) {B1 : Nat} (hr : Rd w B1 A (pv es)) (hn : es.length ≤ 1048576) (v : Bool) (hv : tOkB es n = v) :
    Calls Try.prog 88 #[.agg #[.slice A es.length c], .int .i64 n] w fun e w' => e = .returned (.bool v) ∧ Below w.heap.size w w' := by
  subst hv
  go_enter Try.func88, Try.ntmps88
  go_wp2
  have hr0 := (hr.alloc (.cells #[.slice A es.length c] 45)).lt
  have q0 : (w.alloc (.cells #[.slice A es.length c] 45)).cell? ⟨w.heap.size, 0, none⟩ = some (.slice A es.length c) := by simp [go_sem]
  have hW : Below w.heap.size w (w.alloc (.cells #[.slice A es.length c] 45)) := by (repeat' (first | (with_reducible exact Below.refl _ _) | (with_reducible refine bel_alloc ?_ ?_ _) | (with_reducible refine Below.setCell ?_ ?_ _) | (with_reducible refine below_drewN ?_ _) | (with_reducible refine Below.drew ?_) | (with_reducible exact Nat.le_refl _) | (with_reducible assumption) | omega | (simp only [World.size_alloc, World.size_setCell, World.size_drew]; omega) | (simp; omega) | (simp; done)))
  generalize w.alloc (.cells #[.slice A es.length c] 45) = W0 at *
  clear hr
  go_loopw [10] (fun v wr => ∃ k : Nat, k ≤ es.length ∧ v = .int .i64 k ∧ (∀ i (hi : i < es.length), i < k → eOk n es[i] = true) ∧ Below W0.heap.size W0 wr) (fun v _ => es.length - (intOf v).toNat)
  case atStart => exact ⟨0, Nat.zero_le _, rfl, fun i _ hi => absurd hi (by omega), Below.refl _ _⟩
  case round =>
    obtain ⟨k, hk, rfl, hall, hbr⟩ := hrel
    have HA := Lib.hid hall
    have p0 := keep hbr q0
    have lp0 := lt_of_cell' p0
    clear hall
    by_cases hlt : k < es.length
    · obtain ⟨b, off, rfl, -, hc0, hc1⟩ := (hr0.below hbr).pair hlt
      have lc0 := lt_of_cell' hc0
      have HBAD := Lib.hid (show eOk n es[k] = false → tOkB es n = false from tOk_e hlt)
      have HOK := Lib.hid (show eOk n es[k] = true → ∀ i (hi : i < es.length), i < k + 1 → eOk n es[i] = true from fun h i hi hik => by
        by_cases e : i = k
        · subst e; exact h
        · exact HA.out i hi (by omega))
      have HE := Lib.hid (show eOk n es[k] = (btw es[k].1 0 2 && decide (0 ≤ es[k].2) && (if es[k].1 = 0 then decide (es[k].2 = 0) else decide (es[k].2 < n))) from rfl)
      generalize eOk n es[k] = ok at *
      generalize es[k].1 = x at *
      generalize es[k].2 = y at *
      have i0 : (0 : Int) ≤ (k : Int) := by omega
      have i1 : (k : Int) < (es.length : Int) := by omega
      cases hb : btw x 0 2 with
      | false =>
        have HR := Lib.hid (HBAD.out (by rw [HE.out, hb]; rfl))
        go_wp2_with (go_at_call 32; refine (between_q _ _ _ _).mono ?_; rintro e w2 ⟨rfl, rfl⟩)
        go_ret
        exact ⟨by rw [HR.out]; rfl, by (repeat' (first | (with_reducible exact Below.refl _ _) | (with_reducible refine bel_alloc ?_ ?_ _) | (with_reducible refine Below.setCell ?_ ?_ _) | (with_reducible refine below_drewN ?_ _) | (with_reducible refine Below.drew ?_) | (with_reducible refine bel_step hbr ?_ ?_) | (with_reducible refine bel_step hW ?_ ?_) | (with_reducible exact Nat.le_refl _) | (with_reducible assumption) | omega | (simp only [World.size_alloc, World.size_setCell, World.size_drew]; omega) | (simp; omega) | (simp; done)))⟩
      | true =>
        have hx2 := of_btw hb
        have fin : ∀ (vv : Bool), ok = vv → True := fun _ _ => trivial
        by_cases hx : x = 0
        · subst hx
          by_cases hy : y = 0
          · subst hy
            have HC := Lib.hid (HOK.out (by rw [HE.out, hb]; rfl))
            go_wp2_with (go_at_call 32; refine (between_q _ _ _ _).mono ?_; rintro e w2 ⟨rfl, rfl⟩)
            go_roundw
            case rel => exact ⟨k + 1, by omega, by go_num, HC.out, by (repeat' (first | (with_reducible exact Below.refl _ _) | (with_reducible refine bel_alloc ?_ ?_ _) | (with_reducible refine Below.setCell ?_ ?_ _) | (with_reducible refine below_drewN ?_ _) | (with_reducible refine Below.drew ?_) | (with_reducible refine bel_step hbr ?_ ?_) | (with_reducible exact Nat.le_refl _) | (with_reducible assumption) | omega | (simp only [World.size_alloc, World.size_setCell, World.size_drew]; omega) | (simp; omega) | (simp; done)))⟩
            case measure => simp [intOf]; omega
          · have HR := Lib.hid (HBAD.out (by rw [HE.out]; simp [hy]))
            have hyb : (y != 0) = true := by simp [hy]
            clear hy
            by_cases hyn : y < 0
            all_goals
              go_wp2_with (go_at_call 32; refine (between_q _ _ _ _).mono ?_; rintro e w2 ⟨rfl, rfl⟩)
              go_ret
              exact ⟨by rw [HR.out]; rfl, by (repeat' (first | (with_reducible exact Below.refl _ _) | (with_reducible refine bel_alloc ?_ ?_ _) | (with_reducible refine Below.setCell ?_ ?_ _) | (with_reducible refine below_drewN ?_ _) | (with_reducible refine Below.drew ?_) | (with_reducible refine bel_step hbr ?_ ?_) | (with_reducible refine bel_step hW ?_ ?_) | (with_reducible exact Nat.le_refl _) | (with_reducible assumption) | omega | (simp only [World.size_alloc, World.size_setCell, World.size_drew]; omega) | (simp; omega) | (simp; done)))⟩
        · have hx1 : 0 < x := by omega
          have hxb : (x == 0) = false := by simp [hx]
          have hxc : (x != 0) = true := by simp [hx]
          by_cases hyn : y < 0
          · have HR := Lib.hid (HBAD.out (by rw [HE.out]; have : ¬ 0 ≤ y := by omega
                                             simp [this]))
            have hyn2 : ¬ 0 ≤ y := by omega
            clear hx
            go_wp2_with (go_at_call 32; refine (between_q _ _ _ _).mono ?_; rintro e w2 ⟨rfl, rfl⟩)
            go_ret
            exact ⟨by rw [HR.out]; rfl, by (repeat' (first | (with_reducible exact Below.refl _ _) | (with_reducible refine bel_alloc ?_ ?_ _) | (with_reducible refine Below.setCell ?_ ?_ _) | (with_reducible refine below_drewN ?_ _) | (with_reducible refine Below.drew ?_) | (with_reducible refine bel_step hbr ?_ ?_) | (with_reducible refine bel_step hW ?_ ?_) | (with_reducible exact Nat.le_refl _) | (with_reducible assumption) | omega | (simp only [World.size_alloc, World.size_setCell, World.size_drew]; omega) | (simp; omega) | (simp; done)))⟩
          · have hy0 : 0 ≤ y := by omega
            by_cases hyl : y < n
            · have HC := Lib.hid (HOK.out (by rw [HE.out, hb, if_neg hx]; simp [hy0, hyl]))
              have hyl2 : ¬ n ≤ y := by omega
              clear hx
              go_wp2_with (go_at_call 32; refine (between_q _ _ _ _).mono ?_; rintro e w2 ⟨rfl, rfl⟩)
              go_roundw
              case rel => exact ⟨k + 1, by omega, by go_num, HC.out, by (repeat' (first | (with_reducible exact Below.refl _ _) | (with_reducible refine bel_alloc ?_ ?_ _) | (with_reducible refine Below.setCell ?_ ?_ _) | (with_reducible refine below_drewN ?_ _) | (with_reducible refine Below.drew ?_) | (with_reducible refine bel_step hbr ?_ ?_) | (with_reducible exact Nat.le_refl _) | (with_reducible assumption) | omega | (simp only [World.size_alloc, World.size_setCell, World.size_drew]; omega) | (simp; omega) | (simp; done)))⟩
              case measure => simp [intOf]; omega
            · have HR := Lib.hid (HBAD.out (by rw [HE.out, if_neg hx]; simp [hyl]))
              have hyl2 : n ≤ y := by omega
              have hylb : decide (y < n) = false := by simp; omega
              clear hx
              go_wp2_with (go_at_call 32; refine (between_q _ _ _ _).mono ?_; rintro e w2 ⟨rfl, rfl⟩)
              go_ret
              exact ⟨by rw [HR.out]; rfl, by (repeat' (first | (with_reducible exact Below.refl _ _) | (with_reducible refine bel_alloc ?_ ?_ _) | (with_reducible refine Below.setCell ?_ ?_ _) | (with_reducible refine below_drewN ?_ _) | (with_reducible refine Below.drew ?_) | (with_reducible refine bel_step hbr ?_ ?_) | (with_reducible refine bel_step hW ?_ ?_) | (with_reducible exact Nat.le_refl _) | (with_reducible assumption) | omega | (simp only [World.size_alloc, World.size_setCell, World.size_drew]; omega) | (simp; omega) | (simp; done)))⟩
    · have HR := Lib.hid (tOk_all (n := n) fun i hi => HA.out i hi (by omega))
      cases hbt : btw (es.length : Int) 1 32
      all_goals
        rw [hbt] at HR
        go_wp2_with (go_at_call 32; refine (between_q _ _ _ _).mono ?_; rintro e w2 ⟨rfl, rfl⟩)
        go_ret
        exact ⟨by rw [HR.out]; rfl, by (repeat' (first | (with_reducible exact Below.refl _ _) | (with_reducible refine bel_alloc ?_ ?_ _) | (with_reducible refine Below.setCell ?_ ?_ _) | (with_reducible refine below_drewN ?_ _) | (with_reducible refine Below.drew ?_) | (with_reducible refine bel_step hbr ?_ ?_) | (with_reducible refine bel_step hW ?_ ?_) | (with_reducible exact Nat.le_refl _) | (with_reducible assumption) | omega | (simp only [World.size_alloc, World.size_setCell, World.size_drew]; omega) | (simp; omega) | (simp; done)))⟩
set_option maxRecDepth 100000 in
set_option maxHeartbeats 8000000 in
theorem tableOk_s (A : Option Addr) (c : Nat) (es : List En) (n : Int) (w : World) {B1 : Nat} (hr : Rd w B1 A (pv es)) (hn : es.length ≤ 1048576) (v : Bool) (hv : tOkB es n = v) :
    Calls Try.prog 77 #[.agg #[.slice A es.length c], .int .i64 n] w fun e w' => e = .returned (.bool v) ∧ Below w.heap.size w w' := by
  subst hv
  go_enter Try.func77, Try.ntmps77
  go_wp2
  have hr0 := (hr.alloc (.cells #[.slice A es.length c] 45)).lt
  have q0 : (w.alloc (.cells #[.slice A es.length c] 45)).cell? ⟨w.heap.size, 0, none⟩ = some (.slice A es.length c) := by simp [go_sem]
  have hW : Below w.heap.size w (w.alloc (.cells #[.slice A es.length c] 45)) := by (repeat' (first | (with_reducible exact Below.refl _ _) | (with_reducible refine bel_alloc ?_ ?_ _) | (with_reducible refine Below.setCell ?_ ?_ _) | (with_reducible refine below_drewN ?_ _) | (with_reducible refine Below.drew ?_) | (with_reducible exact Nat.le_refl _) | (with_reducible assumption) | omega | (simp only [World.size_alloc, World.size_setCell, World.size_drew]; omega) | (simp; omega) | (simp; done)))
  generalize w.alloc (.cells #[.slice A es.length c] 45) = W0 at *
  clear hr
  go_loopw [5] (fun v wr => ∃ k : Nat, k ≤ es.length ∧ v = .int .i64 k ∧ (∀ i (hi : i < es.length), i < k → eOk n es[i] = true) ∧ Below W0.heap.size W0 wr) (fun v _ => es.length - (intOf v).toNat)
  case atStart => exact ⟨0, Nat.zero_le _, rfl, fun i _ hi => absurd hi (by omega), Below.refl _ _⟩
  case round =>
    obtain ⟨k, hk, rfl, hall, hbr⟩ := hrel
    have HA := Lib.hid hall
    have p0 := keep hbr q0
    have lp0 := lt_of_cell' p0
    clear hall
    by_cases hlt : k < es.length
    · obtain ⟨b, off, rfl, -, hc0, hc1⟩ := (hr0.below hbr).pair hlt
      have lc0 := lt_of_cell' hc0
      have HBAD := Lib.hid (show eOk n es[k] = false → tOkB es n = false from tOk_e hlt)
      have HOK := Lib.hid (show eOk n es[k] = true → ∀ i (hi : i < es.length), i < k + 1 → eOk n es[i] = true from fun h i hi hik => by
        by_cases e : i = k
        · subst e; exact h
        · exact HA.out i hi (by omega))
      have HE := Lib.hid (show eOk n es[k] = (btw es[k].1 0 2 && decide (0 ≤ es[k].2) && (if es[k].1 = 0 then decide (es[k].2 = 0) else decide (es[k].2 < n))) from rfl)
      generalize eOk n es[k] = ok at *
      generalize es[k].1 = x at *
      generalize es[k].2 = y at *
      have i0 : (0 : Int) ≤ (k : Int) := by omega
      have i1 : (k : Int) < (es.length : Int) := by omega
      cases hb : btw x 0 2 with
      | false =>
        have HR := Lib.hid (HBAD.out (by rw [HE.out, hb]; rfl))
        go_wp2_with (go_at_call 30; refine (l01In_q _ _ _ _).mono ?_; rintro e w2 ⟨rfl, rfl⟩)
        go_ret
        exact ⟨by rw [HR.out]; rfl, by (repeat' (first | (with_reducible exact Below.refl _ _) | (with_reducible refine bel_alloc ?_ ?_ _) | (with_reducible refine Below.setCell ?_ ?_ _) | (with_reducible refine below_drewN ?_ _) | (with_reducible refine Below.drew ?_) | (with_reducible refine bel_step hbr ?_ ?_) | (with_reducible refine bel_step hW ?_ ?_) | (with_reducible exact Nat.le_refl _) | (with_reducible assumption) | omega | (simp only [World.size_alloc, World.size_setCell, World.size_drew]; omega) | (simp; omega) | (simp; done)))⟩
      | true =>
        have hx2 := of_btw hb
        have fin : ∀ (vv : Bool), ok = vv → True := fun _ _ => trivial
        by_cases hx : x = 0
        · subst hx
          by_cases hy : y = 0
          · subst hy
            have HC := Lib.hid (HOK.out (by rw [HE.out, hb]; rfl))
            go_wp2_with (go_at_call 30; refine (l01In_q _ _ _ _).mono ?_; rintro e w2 ⟨rfl, rfl⟩)
            go_roundw
            case rel => exact ⟨k + 1, by omega, by go_num, HC.out, by (repeat' (first | (with_reducible exact Below.refl _ _) | (with_reducible refine bel_alloc ?_ ?_ _) | (with_reducible refine Below.setCell ?_ ?_ _) | (with_reducible refine below_drewN ?_ _) | (with_reducible refine Below.drew ?_) | (with_reducible refine bel_step hbr ?_ ?_) | (with_reducible exact Nat.le_refl _) | (with_reducible assumption) | omega | (simp only [World.size_alloc, World.size_setCell, World.size_drew]; omega) | (simp; omega) | (simp; done)))⟩
            case measure => simp [intOf]; omega
          · have HR := Lib.hid (HBAD.out (by rw [HE.out]; simp [hy]))
            have hyb : (y != 0) = true := by simp [hy]
            clear hy
            by_cases hyn : y < 0
            all_goals
              go_wp2_with (go_at_call 30; refine (l01In_q _ _ _ _).mono ?_; rintro e w2 ⟨rfl, rfl⟩)
              go_ret
              exact ⟨by rw [HR.out]; rfl, by (repeat' (first | (with_reducible exact Below.refl _ _) | (with_reducible refine bel_alloc ?_ ?_ _) | (with_reducible refine Below.setCell ?_ ?_ _) | (with_reducible refine below_drewN ?_ _) | (with_reducible refine Below.drew ?_) | (with_reducible refine bel_step hbr ?_ ?_) | (with_reducible refine bel_step hW ?_ ?_) | (with_reducible exact Nat.le_refl _) | (with_reducible assumption) | omega | (simp only [World.size_alloc, World.size_setCell, World.size_drew]; omega) | (simp; omega) | (simp; done)))⟩
        · have hx1 : 0 < x := by omega
          have hxb : (x == 0) = false := by simp [hx]
          have hxc : (x != 0) = true := by simp [hx]
          by_cases hyn : y < 0
          · have HR := Lib.hid (HBAD.out (by rw [HE.out]; have : ¬ 0 ≤ y := by omega
                                             simp [this]))
            have hyn2 : ¬ 0 ≤ y := by omega
            clear hx
            go_wp2_with (go_at_call 30; refine (l01In_q _ _ _ _).mono ?_; rintro e w2 ⟨rfl, rfl⟩)
            go_ret
            exact ⟨by rw [HR.out]; rfl, by (repeat' (first | (with_reducible exact Below.refl _ _) | (with_reducible refine bel_alloc ?_ ?_ _) | (with_reducible refine Below.setCell ?_ ?_ _) | (with_reducible refine below_drewN ?_ _) | (with_reducible refine Below.drew ?_) | (with_reducible refine bel_step hbr ?_ ?_) | (with_reducible refine bel_step hW ?_ ?_) | (with_reducible exact Nat.le_refl _) | (with_reducible assumption) | omega | (simp only [World.size_alloc, World.size_setCell, World.size_drew]; omega) | (simp; omega) | (simp; done)))⟩
          · have hy0 : 0 ≤ y := by omega
            by_cases hyl : y < n
            · have HC := Lib.hid (HOK.out (by rw [HE.out, hb, if_neg hx]; simp [hy0, hyl]))
              have hyl2 : ¬ n ≤ y := by omega
              clear hx
              go_wp2_with (go_at_call 30; refine (l01In_q _ _ _ _).mono ?_; rintro e w2 ⟨rfl, rfl⟩)
              go_roundw
              case rel => exact ⟨k + 1, by omega, by go_num, HC.out, by (repeat' (first | (with_reducible exact Below.refl _ _) | (with_reducible refine bel_alloc ?_ ?_ _) | (with_reducible refine Below.setCell ?_ ?_ _) | (with_reducible refine below_drewN ?_ _) | (with_reducible refine Below.drew ?_) | (with_reducible refine bel_step hbr ?_ ?_) | (with_reducible exact Nat.le_refl _) | (with_reducible assumption) | omega | (simp only [World.size_alloc, World.size_setCell, World.size_drew]; omega) | (simp; omega) | (simp; done)))⟩
              case measure => simp [intOf]; omega
            · have HR := Lib.hid (HBAD.out (by rw [HE.out, if_neg hx]; simp [hyl]))
              have hyl2 : n ≤ y := by omega
              have hylb : decide (y < n) = false := by simp; omega
              clear hx
              go_wp2_with (go_at_call 30; refine (l01In_q _ _ _ _).mono ?_; rintro e w2 ⟨rfl, rfl⟩)
              go_ret
              exact ⟨by rw [HR.out]; rfl, by (repeat' (first | (with_reducible exact Below.refl _ _) | (with_reducible refine bel_alloc ?_ ?_ _) | (with_reducible refine Below.setCell ?_ ?_ _) | (with_reducible refine below_drewN ?_ _) | (with_reducible refine Below.drew ?_) | (with_reducible refine bel_step hbr ?_ ?_) | (with_reducible refine bel_step hW ?_ ?_) | (with_reducible exact Nat.le_refl _) | (with_reducible assumption) | omega | (simp only [World.size_alloc, World.size_setCell, World.size_drew]; omega) | (simp; omega) | (simp; done)))⟩
    · have HR := Lib.hid (tOk_all (n := n) fun i hi => HA.out i hi (by omega))
      cases hbt : btw (es.length : Int) 1 32
      all_goals
        rw [hbt] at HR
        go_wp2_with (go_at_call 30; refine (l01In_q _ _ _ _).mono ?_; rintro e w2 ⟨rfl, rfl⟩)
        go_ret
        exact ⟨by rw [HR.out]; rfl, by (repeat' (first | (with_reducible exact Below.refl _ _) | (with_reducible refine bel_alloc ?_ ?_ _) | (with_reducible refine Below.setCell ?_ ?_ _) | (with_reducible refine below_drewN ?_ _) | (with_reducible refine Below.drew ?_) | (with_reducible refine bel_step hbr ?_ ?_) | (with_reducible refine bel_step hW ?_ ?_) | (with_reducible exact Nat.le_refl _) | (with_reducible assumption) | omega | (simp only [World.size_alloc, World.size_setCell, World.size_drew]; omega) | (simp; omega) | (simp; done)))⟩
end Go.Proofs.Ytljholnnhogdkaa
