/- The walk of FnRanges. -/
import Derived.Test.YtfdpplamebmdhaaRangeE
import Derived.Test.YtfdpplamebmdhaaRangeZ
import Derived.Test.YtfdpplamebmdhaaRangeTkT
import Derived.Test.YtfdpplamebmdhaaRangeR
namespace Go.Proofs.Ytfdpplamebmdhaa
open Go.ChangeShapes Go.WideShapes Go.ChangeAt Go.RowKit
set_option linter.unusedVariables false
set_option linter.unusedSimpArgs false

set_option maxRecDepth 100000 in
set_option maxHeartbeats 8000000 in
theorem law_ranges (A : Option Addr) (c : Nat) (bs : List Int) (w : World) (hr : Rd w w.heap.size A (bv bs)) (hbb : ∀ b ∈ bs, 0 ≤ b ∧ b ≤ 255) :
    Calls Try.prog 11 #[.slice A bs.length c] w fun e w' => e = .returned (.bool true) ∧ Below w.heap.size w w' := by
  by_cases hbig : (1048576 : Int) < bs.length
  · go_enter Try.func11, Try.ntmps11
    go_wp2_with (go_at_call 23; refine (big_any _ _ _ _).mono ?_; rintro e w ⟨rfl, rfl⟩)
    go_ret
    exact ⟨rfl, by (repeat' (first | (with_reducible exact Below.refl _ _) | (with_reducible refine bel_alloc ?_ ?_ _) | (with_reducible refine Below.setCell ?_ ?_ _) | (with_reducible refine below_drewN ?_ _) | (with_reducible refine Below.drew ?_) | (with_reducible exact Nat.le_refl _) | (with_reducible assumption) | omega | (simp only [World.size_alloc, World.size_setCell, World.size_drew]; omega) | (simp; omega) | (simp; done)))⟩
  · have hb : Bytes bs := ⟨by omega, hbb⟩
    go_enter Try.func11, Try.ntmps11
    go_wp2_with (go_at_call 23; refine (big_any _ _ _ _).mono ?_; rintro e w ⟨rfl, rfl⟩)
    refine (drawRanges_any A c bs _ hb hr).mono ?_
    rintro e w1 ⟨pg, A1, c1, xs, rfl, hok, hR, hcap, hb1⟩
    go_wp2_with fail
    refine (places_any _ A c bs _ hb (hr.below hb1) hb1.size).mono ?_
    rintro e w2 ⟨A2, c2, ps, rfl, hp, ho, hb2⟩
    obtain ⟨g, rfl, hg1, hg2, P, hP, hcell⟩ := places_at ho hp
    have q0 := hcell 0 (by omega)
    have hp0 := hP 0 (by omega)
    replace hR := hR.below hb2
    have hl33 := rOk_len hok
    have hpg := (rOkB_facts hok).2
    obtain ⟨n, hn⟩ : ∃ n, n = 1 + P 0 % 5 := ⟨_, rfl⟩
    have hn1 : 1 ≤ n := by omega
    have hn5 : n ≤ 5 := by omega
    have HN := Lib.hid hn
    have HK := Lib.hid hok
    generalize P 0 = p0 at *
    clear hcell hP ho hn hok hr
    by_cases hbst : bst n xs xs.length < 0
    · have hwl := wid_lt hn1 (fun j hj => bst_neg xs.length (Nat.le_refl _) hbst j hj hj) xs.length (Nat.le_refl _)
      have HB := Lib.hid hbst
      have HWD := Lib.hid (fun W (h : Rd W W.heap.size A1 (pv xs)) => widest_i A1 c1 xs W h (by omega))
      generalize wid xs xs.length = wv at *
      clear hbst
      go_wp2_with fail
      rw [← HN.out]
      refine (rangeTake_i_none pg A1 c1 xs n _ hR (by omega) (by omega) HK.out hn1 HB.out).mono ?_
      rintro e w3 ⟨A3, c3, S3, rfl, hW3, hN3, hb3, hcap3⟩
      replace hR := hR.below hb3
      go_wp2_with fail
      refine (HWD.out _ hR.lt).mono ?_
      rintro e w4 ⟨rfl, hb4⟩
      replace hR := hR.below hb4
      replace hW3 := hW3.below hb4
      go_wp2_with fail
      refine (sameRanges_same A3 A1 xs.length c3 c1 xs _ hW3.rd hR rfl (by omega)).mono ?_
      rintro e w5 ⟨rfl, hb5⟩
      go_wp2
      go_ret
      exact ⟨rfl, by (repeat' (first | (with_reducible exact Below.refl _ _) | (with_reducible refine bel_alloc ?_ ?_ _) | (with_reducible refine Below.setCell ?_ ?_ _) | (with_reducible refine below_drewN ?_ _) | (with_reducible refine Below.drew ?_) | (with_reducible refine bel_step hb1 ?_ ?_) | (with_reducible refine bel_step hb2 ?_ ?_) | (with_reducible refine bel_step hb3 ?_ ?_) | (with_reducible refine bel_step hb4 ?_ ?_) | (with_reducible refine bel_step hb5 ?_ ?_) | (with_reducible exact Nat.le_refl _) | (with_reducible assumption) | omega | (simp only [World.size_alloc, World.size_setCell, World.size_drew]; omega) | (simp; omega) | (simp; done)))⟩
    · have hbb2 := bst_bd n xs xs.length
      obtain ⟨j, hj⟩ : ∃ j : Nat, bst n xs xs.length = (j : Int) := ⟨(bst n xs xs.length).toNat, by omega⟩
      have hjx := bst_le n xs hj
      have hfit := bst_fit hj hjx
      obtain ⟨t1, t2, t3, t4⟩ := take_put hjx (srt_all HK.out) hn1 hfit
      have hin := rInB_yes (okAt_in hjx ((rOkB_facts HK.out).1 j hjx))
      have hoky := rOk_tk HK.out hjx hn1 hfit
      have HTK := Lib.hid (fun W h => rangeTake_i_yes (B := W.heap.size) pg A1 c1 xs n W h (by omega) (by omega) HK.out hn1 j hj hjx)
      have hcx : cov xs xs[j].1 := ⟨xs[j], List.getElem_mem hjx, by omega, by omega⟩
      have hcy : ¬ cov (tkL n xs j) xs[j].1 := fun h => ((t4 _).1 h).2 (by omega)
      have hov : ∃ x ∈ xs, x.1 ≤ (xs[j].1, n).1 ∧ (xs[j].1, n).1 + (xs[j].1, n).2 ≤ x.1 + x.2 := ⟨xs[j], List.getElem_mem hjx, by simp only; omega, by simp only; omega⟩
      have hnn := ip_none (r := (xs[j].1, n)) hn1 (srt_all HK.out) (by simp only; omega) hov
      obtain ⟨sx1, sx2, sx3⟩ := sum_tot HK.out
      obtain ⟨sy1, sy2, sy3⟩ := sum_tot hoky
      have hyl := tkL_len n xs j
      have hhx : hasR xs xs[j].1 = true := (has_cov HK.out _).2 hcx
      have hhy : hasR (tkL n xs j) xs[j].1 = false := has_no hoky hcy
      have hri : rInB pg (xs[j].1, n) = true := by
        simp only [rInB, Bool.and_eq_true]
        exact ⟨btw_t (by omega) (by omega), btw_t (by omega) (by omega)⟩
      generalize hu1 : xs[j].1 = u1 at *
      generalize hu2 : xs[j].2 = u2 at *
      generalize hyy : tkL n xs j = ys at *
      have HP1 := Lib.hid (fun (A' : Option Addr) (c' : Nat) W h => (show Calls _ _ _ _ (MadeRP xs true W) from rangePut_i_yes (B := W.heap.size) pg A' c' ys u1 n W h (by omega) (by omega) hoky hri (some xs) t2))
      have HP2 := Lib.hid (fun (A' : Option Addr) (c' : Nat) W h => (show Calls _ _ _ _ (MadeRP xs false W) from rangePut_i_yes (B := W.heap.size) pg A' c' xs u1 n W h (by omega) (by omega) HK.out hri none hnn))
      have HOY := Lib.hid (fun (A' : Option Addr) (c' : Nat) W h => (show Calls _ _ _ _ (fun e w' => e = .returned (.bool true) ∧ Below W.heap.size W w') by have := rangesOk_i (B := W.heap.size) pg A' c' ys W h (by omega) (by omega); rwa [hoky] at this))
      have HSY := Lib.hid (fun (A' : Option Addr) (c' : Nat) W h => (show Calls _ _ _ _ (fun e w' => e = .returned (.int .i64 (tot ys)) ∧ Below W.heap.size W w') by have := rangePages_i (B := W.heap.size) A' c' ys W h (by omega); rwa [sy1] at this))
      have HSX := Lib.hid (fun (A' : Option Addr) (c' : Nat) W h => (show Calls _ _ _ _ (fun e w' => e = .returned (.int .i64 (tot xs)) ∧ Below W.heap.size W w') by have := rangePages_i (B := W.heap.size) A' c' xs W h (by omega); rwa [sx1] at this))
      have HHY := Lib.hid (fun (A' : Option Addr) (c' : Nat) W h => (show Calls _ _ _ _ (fun e w' => e = .returned (.bool false) ∧ Below W.heap.size W w') by have := rangeHas_i (B := W.heap.size) A' c' ys u1 W h (by omega); rwa [hhy] at this))
      have HHX := Lib.hid (fun (A' : Option Addr) (c' : Nat) W h => (show Calls _ _ _ _ (fun e w' => e = .returned (.bool true) ∧ Below W.heap.size W w') by have := rangeHas_i (B := W.heap.size) A' c' xs u1 W h (by omega); rwa [hhx] at this))
      have htt : (tot ys == tot xs - n) = true := by simp; omega
      generalize tot ys = ty at *
      generalize tot xs = tx at *
      clear hbst hbb2 hj hjx hfit t1 t2 t3 t4 hin hoky hcx hcy hov hnn sx1 sy1 hhx hhy hri hu1 hu2 hyy hyl
      go_wp2_with fail
      rw [← HN.out]
      refine (HTK.out _ hR.lt).mono ?_
      rintro e w3 ⟨A3, c3, S3, rfl, hW3, hN3, hb3, hcap3⟩
      replace hR := hR.below hb3
      have hY := hW3.rd
      clear hW3 hN3 hcap3
      go_wp2_with fail
      refine (HP1.out A3 c3 _ hY.lt).mono ?_
      rintro e w4 ⟨A4, c4, S4, rfl, hW4, hN4, hb4, hcap4⟩
      replace hR := hR.below hb4
      replace hY := hY.below hb4
      have hZ := hW4.rd
      clear hW4 hN4 hcap4
      go_wp2_with fail
      refine (HP2.out A4 c4 _ hZ.lt).mono ?_
      rintro e w5 ⟨A5, c5, S5, rfl, hW5, hN5, hb5, hcap5⟩
      replace hR := hR.below hb5
      replace hY := hY.below hb5
      replace hZ := hZ.below hb5
      clear hW5 hN5 hcap5
      go_wp2_with fail
      refine (sameRanges_same A4 A1 xs.length c4 c1 xs _ hZ hR rfl (by omega)).mono ?_
      rintro e w6 ⟨rfl, hb6⟩
      replace hR := hR.below hb6
      replace hY := hY.below hb6
      go_wp2_with fail
      refine (HOY.out A3 c3 _ hY.lt).mono ?_
      rintro e w7 ⟨rfl, hb7⟩
      replace hR := hR.below hb7
      replace hY := hY.below hb7
      go_wp2_with fail
      refine (HSY.out A3 c3 _ hY.lt).mono ?_
      rintro e w8 ⟨rfl, hb8⟩
      replace hR := hR.below hb8
      replace hY := hY.below hb8
      go_wp2_with fail
      refine (HSX.out A1 c1 _ hR.lt).mono ?_
      rintro e w9 ⟨rfl, hb9⟩
      replace hR := hR.below hb9
      replace hY := hY.below hb9
      go_wp2_with fail
      refine (HHY.out A3 c3 _ hY.lt).mono ?_
      rintro e w10 ⟨rfl, hb10⟩
      replace hR := hR.below hb10
      go_wp2_with fail
      refine (HHX.out A1 c1 _ hR.lt).mono ?_
      rintro e w11 ⟨rfl, hb11⟩
      go_wp2
      go_ret
      exact ⟨rfl, by (repeat' (first | (with_reducible exact Below.refl _ _) | (with_reducible refine bel_alloc ?_ ?_ _) | (with_reducible refine Below.setCell ?_ ?_ _) | (with_reducible refine below_drewN ?_ _) | (with_reducible refine Below.drew ?_) | (with_reducible refine bel_step hb1 ?_ ?_) | (with_reducible refine bel_step hb2 ?_ ?_) | (with_reducible refine bel_step hb3 ?_ ?_) | (with_reducible refine bel_step hb4 ?_ ?_) | (with_reducible refine bel_step hb5 ?_ ?_) | (with_reducible refine bel_step hb6 ?_ ?_) | (with_reducible refine bel_step hb7 ?_ ?_) | (with_reducible refine bel_step hb8 ?_ ?_) | (with_reducible refine bel_step hb9 ?_ ?_) | (with_reducible refine bel_step hb10 ?_ ?_) | (with_reducible refine bel_step hb11 ?_ ?_) | (with_reducible exact Nat.le_refl _) | (with_reducible assumption) | omega | (simp only [World.size_alloc, World.size_setCell, World.size_drew]; omega) | (simp; omega) | (simp; done)))⟩
end Go.Proofs.Ytfdpplamebmdhaa
