/- The walk of FnBestFit. -/
import Derived.Test.YtfdpplamebmdhaaRangeE
import Derived.Test.YtfdpplamebmdhaaRangeZ
import Derived.Test.YtfdpplamebmdhaaRangeTkT
namespace Go.Proofs.Ytfdpplamebmdhaa
open Go.ChangeShapes Go.WideShapes Go.ChangeAt Go.RowKit
set_option linter.unusedVariables false
set_option linter.unusedSimpArgs false

set_option maxRecDepth 100000 in
set_option maxHeartbeats 8000000 in
theorem law_bestFit (A : Option Addr) (c : Nat) (bs : List Int) (w : World) (hr : Rd w w.heap.size A (bv bs)) (hbb : ∀ b ∈ bs, 0 ≤ b ∧ b ≤ 255) :
    Calls Try.prog 10 #[.slice A bs.length c] w fun e w' => e = .returned (.bool true) ∧ Below w.heap.size w w' := by
  by_cases hbig : (1048576 : Int) < bs.length
  · go_enter Try.func10, Try.ntmps10
    go_wp2_with (go_at_call 23; refine (big_any _ _ _ _).mono ?_; rintro e w ⟨rfl, rfl⟩)
    go_ret
    exact ⟨rfl, by (repeat' (first | (with_reducible exact Below.refl _ _) | (with_reducible refine bel_alloc ?_ ?_ _) | (with_reducible refine Below.setCell ?_ ?_ _) | (with_reducible refine below_drewN ?_ _) | (with_reducible refine Below.drew ?_) | (with_reducible exact Nat.le_refl _) | (with_reducible assumption) | omega | (simp only [World.size_alloc, World.size_setCell, World.size_drew]; omega) | (simp; omega) | (simp; done)))⟩
  · have hb : Bytes bs := ⟨by omega, hbb⟩
    go_enter Try.func10, Try.ntmps10
    go_wp2_with (go_at_call 23; refine (big_any _ _ _ _).mono ?_; rintro e w ⟨rfl, rfl⟩)
    refine (drawRanges_any A c bs _ hb hr).mono ?_
    rintro e w1 ⟨pg, A1, c1, xs, rfl, hok, hR, hcap, hb1⟩
    go_wp2_with fail
    refine (places_any _ A c bs _ hb (hr.below hb1) hb1.size).mono ?_
    rintro e w2 ⟨A2, c2, ps, rfl, hp, ho, hb2⟩
    obtain ⟨g, rfl, hg1, hg2, P, hP, hcell⟩ := places_at ho hp
    have q0 := hcell 0 (by omega)
    have hp0 := hP 0 (by omega)
    replace hR := hR.below hb2
    have hl33 := rOk_len hok
    have hpg := (rOkB_facts hok).2
    obtain ⟨n, hn⟩ : ∃ n, n = 1 + P 0 % 4 := ⟨_, rfl⟩
    have hn1 : 1 ≤ n := by omega
    have hn5 : n ≤ 5 := by omega
    have HN := Lib.hid hn
    have HK := Lib.hid hok
    generalize P 0 = p0 at *
    clear hcell hP ho hn hok hr
    by_cases hbst : bst n xs xs.length < 0
    · have hwl := wid_lt hn1 (fun j hj => bst_neg xs.length (Nat.le_refl _) hbst j hj hj) xs.length (Nat.le_refl _)
      have HB := Lib.hid hbst
      have HWD := Lib.hid (fun W (h : Rd W W.heap.size A1 (pv xs)) => widest_i A1 c1 xs W h (by omega))
      have HRT := Lib.hid (fun W h => rangeTake_i_none (B := W.heap.size) pg A1 c1 xs n W h (by omega) (by omega) HK.out hn1 HB.out)
      generalize wid xs xs.length = wv at *
      generalize hmx : xs.length = m at *
      clear hbst hmx
      have hwv : decide (wv < n) = true := by simp [hwl]
      rcases Nat.eq_zero_or_pos m with rfl | hm0
      all_goals
        go_wp2_with fail
        rw [← HN.out]
        refine (HRT.out _ hR.lt).mono ?_
        rintro e w3 ⟨A3, c3, S3, rfl, hW3, hN3, hb3, hcap3⟩
        replace hR := hR.below hb3
        have hbw3 : Below w.heap.size w w3 := by (repeat' (first | (with_reducible exact Below.refl _ _) | (with_reducible refine bel_alloc ?_ ?_ _) | (with_reducible refine Below.setCell ?_ ?_ _) | (with_reducible refine below_drewN ?_ _) | (with_reducible refine Below.drew ?_) | (with_reducible refine bel_step hb1 ?_ ?_) | (with_reducible refine bel_step hb2 ?_ ?_) | (with_reducible refine bel_step hb3 ?_ ?_) | (with_reducible exact Nat.le_refl _) | (with_reducible assumption) | omega | (simp only [World.size_alloc, World.size_setCell, World.size_drew]; omega) | (simp; omega) | (simp; done)))
        clear hW3 hN3 hcap3
        go_wp2
        go_loopw [10] (fun v wr => v = .int .i64 0 ∧ Below w3.heap.size w3 wr) (fun v _ => 1)
        case atStart => exact ⟨rfl, Below.refl _ _⟩
        case round =>
          obtain ⟨rfl, hbr⟩ := hrel
          replace hR := hR.below hbr
          go_wp2_with fail
          refine (HWD.out _ hR.lt).mono ?_
          rintro e w4 ⟨rfl, hb4⟩
          go_wp2
          go_ret
          exact ⟨rfl, by (repeat' (first | (with_reducible exact Below.refl _ _) | (with_reducible refine bel_alloc ?_ ?_ _) | (with_reducible refine Below.setCell ?_ ?_ _) | (with_reducible refine below_drewN ?_ _) | (with_reducible refine Below.drew ?_) | (with_reducible refine bel_step hbw3 ?_ ?_) | (with_reducible refine bel_step hbr ?_ ?_) | (with_reducible refine bel_step hb4 ?_ ?_) | (with_reducible exact Nat.le_refl _) | (with_reducible assumption) | omega | (simp only [World.size_alloc, World.size_setCell, World.size_drew]; omega) | (simp; omega) | (simp; done)))⟩
    · have hbb2 := bst_bd n xs xs.length
      obtain ⟨j, hj⟩ : ∃ j : Nat, bst n xs xs.length = (j : Int) := ⟨(bst n xs xs.length).toNat, by omega⟩
      have hjx := bst_le n xs hj
      have hfit := bst_fit hj hjx
      have HMIN := Lib.hid (fun k (hk : k < xs.length) (hnk : n ≤ xs[k].2) => (show xs[j].2 ≤ xs[k].2 by have := bst_min (n := n) xs.length (Nat.le_refl _) j hj k hk hk hnk; rwa [getD_at hjx] at this))
      have HNE := Lib.hid (fun k (hk : k < j) (hk2 : k < xs.length) => (show xs[k].1 ≠ xs[j].1 by have h1 := srt_at (srt_all HK.out) hk hjx; have h2 := srt_mem (srt_all HK.out) xs[k] (List.getElem_mem hk2); omega))
      have HTK := Lib.hid (fun W h => rangeTake_i_yes (B := W.heap.size) pg A1 c1 xs n W h (by omega) (by omega) HK.out hn1 j hj hjx)
      obtain ⟨at1, hu1⟩ : ∃ u, u = xs[j].1 := ⟨_, rfl⟩
      obtain ⟨ln1, hu2⟩ : ∃ u, u = xs[j].2 := ⟨_, rfl⟩
      rw [← hu1] at HTK
      rw [← hu2] at hfit
      have HU1 := Lib.hid hu1
      have HU2 := Lib.hid hu2
      clear hbst hbb2 hj hu1 hu2
      go_wp2_with fail
      rw [← HN.out]
      refine (HTK.out _ hR.lt).mono ?_
      rintro e w3 ⟨A3, c3, S3, rfl, hW3, hN3, hb3, hcap3⟩
      replace hR := hR.below hb3
      have hbw3 : Below w.heap.size w w3 := by (repeat' (first | (with_reducible exact Below.refl _ _) | (with_reducible refine bel_alloc ?_ ?_ _) | (with_reducible refine Below.setCell ?_ ?_ _) | (with_reducible refine below_drewN ?_ _) | (with_reducible refine Below.drew ?_) | (with_reducible refine bel_step hb1 ?_ ?_) | (with_reducible refine bel_step hb2 ?_ ?_) | (with_reducible refine bel_step hb3 ?_ ?_) | (with_reducible exact Nat.le_refl _) | (with_reducible assumption) | omega | (simp only [World.size_alloc, World.size_setCell, World.size_drew]; omega) | (simp; omega) | (simp; done)))
      clear hW3 hN3 hcap3 hb3 hb2 hb1 q0
      go_wp2
      go_loopw [10] (fun v wr => ∃ i : Nat, i ≤ j ∧ v = .int .i64 i ∧ Below w3.heap.size w3 wr) (fun v _ => xs.length - (intOf v).toNat)
      case atStart => exact ⟨0, Nat.zero_le _, rfl, Below.refl _ _⟩
      case round =>
        obtain ⟨i, hi, rfl, hbr⟩ := hrel
        have hil : i < xs.length := by omega
        have i0 : (0 : Int) ≤ (i : Int) := by omega
        have i1 : (i : Int) < (xs.length : Int) := by omega
        obtain ⟨b, off, rfl, -, hc0, hc1⟩ := (hR.lt.below hbr).pair hil
        by_cases hlt : i < j
        · have hne := HNE.out i hlt hil
          rw [← HU1.out] at hne
          generalize xs[i].1 = x1 at *
          generalize xs[i].2 = x2 at *
          have hneb : (x1 != at1) = true := by simpa using hne
          go_wp2
          go_roundw
          case rel => exact ⟨i + 1, by omega, by go_num, by (repeat' (first | (with_reducible exact Below.refl _ _) | (with_reducible refine bel_alloc ?_ ?_ _) | (with_reducible refine Below.setCell ?_ ?_ _) | (with_reducible refine below_drewN ?_ _) | (with_reducible refine Below.drew ?_) | (with_reducible refine bel_step hbr ?_ ?_) | (with_reducible exact Nat.le_refl _) | (with_reducible assumption) | omega | (simp only [World.size_alloc, World.size_setCell, World.size_drew]; omega) | (simp; omega) | (simp; done)))⟩
          case measure => simp [intOf]; omega
        · obtain rfl : i = j := by omega
          rw [← HU1.out] at hc0
          rw [← HU2.out] at hc1
          have hneb : (at1 != at1) = false := by simp
          have hR2 := hR.lt.below hbr
          have hbw4 : Below w.heap.size w wr := by (repeat' (first | (with_reducible exact Below.refl _ _) | (with_reducible refine bel_alloc ?_ ?_ _) | (with_reducible refine Below.setCell ?_ ?_ _) | (with_reducible refine below_drewN ?_ _) | (with_reducible refine Below.drew ?_) | (with_reducible refine bel_step hbw3 ?_ ?_) | (with_reducible refine bel_step hbr ?_ ?_) | (with_reducible exact Nat.le_refl _) | (with_reducible assumption) | omega | (simp only [World.size_alloc, World.size_setCell, World.size_drew]; omega) | (simp; omega) | (simp; done)))
          clear hbr
          go_wp2
          go_loopw [11] (fun v wx => ∃ k : Nat, k ≤ xs.length ∧ v = .int .i64 k ∧ Below wr.heap.size wr wx) (fun v _ => xs.length - (intOf v).toNat)
          case atStart => exact ⟨0, Nat.zero_le _, rfl, Below.refl _ _⟩
          case round =>
            obtain ⟨wx, hwx⟩ : ∃ wx : World, wx = wr := ⟨_, rfl⟩
            subst hwx
            obtain ⟨k, hk, rfl, hbx⟩ := hrel
            have hRx := hR2.lt.below hbx
            have hcx1 := keep hbx hc1
            by_cases hlk : k < xs.length
            · obtain ⟨b', off', hA', -, hd0, hd1⟩ := hRx.pair hlk
              obtain ⟨rfl, rfl⟩ : b = b' ∧ off = off' := by injection hA' with e; injection e with e1 e2; exact ⟨e1, e2⟩
              clear hA'
              have i2 : (0 : Int) ≤ (k : Int) := by omega
              have i3 : (k : Int) < (xs.length : Int) := by omega
              have hmin := HMIN.out k hlk
              rw [← HU2.out] at hmin
              generalize xs[k].1 = y1 at *
              generalize xs[k].2 = y2 at *
              by_cases hge : n ≤ y2
              · have hge1 : decide (n ≤ y2) = true := by simp [hge]
                have hge2 : decide (y2 < ln1) = false := by have := hmin hge; simp; omega
                clear hmin hge hd0
                go_wp2
                go_quiet (fail)
                go_wp2
                go_roundw
                case rel => exact ⟨k + 1, by omega, by go_num, by (repeat' (first | (with_reducible exact Below.refl _ _) | (with_reducible refine bel_alloc ?_ ?_ _) | (with_reducible refine Below.setCell ?_ ?_ _) | (with_reducible refine below_drewN ?_ _) | (with_reducible refine Below.drew ?_) | (with_reducible refine bel_step hbx ?_ ?_) | (with_reducible exact Nat.le_refl _) | (with_reducible assumption) | omega | (simp only [World.size_alloc, World.size_setCell, World.size_drew]; omega) | (simp; omega) | (simp; done)))⟩
                case measure => simp [intOf]; omega
              · have hge1 : decide (n ≤ y2) = false := by simp [hge]
                clear hmin hge hd0
                go_wp2
                go_quiet (fail)
                go_wp2
                go_roundw
                case rel => exact ⟨k + 1, by omega, by go_num, by (repeat' (first | (with_reducible exact Below.refl _ _) | (with_reducible refine bel_alloc ?_ ?_ _) | (with_reducible refine Below.setCell ?_ ?_ _) | (with_reducible refine below_drewN ?_ _) | (with_reducible refine Below.drew ?_) | (with_reducible refine bel_step hbx ?_ ?_) | (with_reducible exact Nat.le_refl _) | (with_reducible assumption) | omega | (simp only [World.size_alloc, World.size_setCell, World.size_drew]; omega) | (simp; omega) | (simp; done)))⟩
                case measure => simp [intOf]; omega
            · have hfb : decide (n ≤ ln1) = true := by simp [hfit]
              go_wp2
              go_ret
              exact ⟨by first | rfl | (simp [hfb]; done) | (simp; omega), by (repeat' (first | (with_reducible exact Below.refl _ _) | (with_reducible refine bel_alloc ?_ ?_ _) | (with_reducible refine Below.setCell ?_ ?_ _) | (with_reducible refine below_drewN ?_ _) | (with_reducible refine Below.drew ?_) | (with_reducible refine bel_step hbw4 ?_ ?_) | (with_reducible refine bel_step hbx ?_ ?_) | (with_reducible exact Nat.le_refl _) | (with_reducible assumption) | omega | (simp only [World.size_alloc, World.size_setCell, World.size_drew]; omega) | (simp; omega) | (simp; done)))⟩
end Go.Proofs.Ytfdpplamebmdhaa
