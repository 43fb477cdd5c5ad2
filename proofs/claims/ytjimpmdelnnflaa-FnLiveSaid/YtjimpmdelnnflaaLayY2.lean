/- The walk of FnLive. -/
import Derived.Test.YtjimpmdelnnflaaLayX
import Derived.Test.YtjimpmdelnnflaaLayY1
namespace Go.Proofs.Ytjimpmdelnnflaa
open Go.ChangeShapes Go.WideShapes Go.ChangeAt Go.RowKit
set_option linter.unusedVariables false
set_option linter.unusedSimpArgs false

theorem ind_bd (xs ys : List T3) (i : Nat) : 0 ≤ ind xs ys i ∧ ind xs ys i ≤ 1 := by
  unfold ind
  split <;> omega
theorem frc_top {xs ys : List T3} {p : Int} (h : LayInv xs ys p) (hp : p ≤ 31) : frC (den xs ys 511) = 3 := by
  rw [top_free h hp]
  rfl
theorem ind_of {xs ys : List T3} {k : Nat} {t0 t1 t2 t3 : Int} (h : den xs ys k = (t0, t1, t2, t3)) : ind xs ys k = if t0 = 1 ∨ t0 = 3 then 1 else 0 := by
  simp only [ind, isLive, h]
set_option maxRecDepth 100000 in
set_option maxHeartbeats 8000000 in
theorem law_live (A : Option Addr) (c : Nat) (bs : List Int) (w : World) (hr : Rd w w.heap.size A (bv bs)) (hbb : ∀ b ∈ bs, 0 ≤ b ∧ b ≤ 255) :
    Calls Try.prog 7 #[.slice A bs.length c] w fun e w' => e = .returned (.bool true) ∧ Below w.heap.size w w' := by
  by_cases hbig : (1048576 : Int) < bs.length
  · go_enter Try.func7, Try.ntmps7
    go_wp2_with (go_at_call 11; refine (big_any _ _ _ _).mono ?_; rintro e w ⟨rfl, rfl⟩)
    go_ret
    exact ⟨rfl, by (repeat' (first | (with_reducible exact Below.refl _ _) | (with_reducible refine bel_alloc ?_ ?_ _) | (with_reducible refine Below.setCell ?_ ?_ _) | (with_reducible refine below_drewN ?_ _) | (with_reducible refine Below.drew ?_) | (with_reducible exact Nat.le_refl _) | (with_reducible assumption) | omega | (simp only [World.size_alloc, World.size_setCell, World.size_drew]; omega) | (simp; omega) | (simp; done)))⟩
  · have hb : Bytes bs := ⟨by omega, hbb⟩
    go_enter Try.func7, Try.ntmps7
    go_wp2_with (go_at_call 11; refine (big_any _ _ _ _).mono ?_; rintro e w ⟨rfl, rfl⟩)
    refine (drawLayout_any A c bs _ hb hr).mono ?_
    rintro e w1 ⟨A3, c3, A4, c4, xs, ys, rfl, hinv, hxl, hyl, hR, hS, hb1⟩
    have HINV := Lib.hid hinv
    clear hinv hr hb hbb
    go_wp2_with fail
    go_loopw [5, 6] (fun u v wr => ∃ k : Nat, k ≤ 512 ∧ v = .int .i64 k ∧ u = .int .i64 (sm (ind xs ys) k) ∧ Below w.heap.size w wr ∧ Below w1.heap.size w1 wr) (fun _ v _ => 512 - (intOf v).toNat)
    case atStart => exact ⟨0, by omega, rfl, rfl, hb1, Below.refl _ _⟩
    case round =>
      obtain ⟨k, hk, rfl, rfl, hbr, hb2⟩ := hrel
      replace hR := hR.below hb2
      replace hS := hS.below hb2
      have hsb := sm_bd (ind_bd xs ys) k
      by_cases hlt : k < 512
      · obtain ⟨t0, t1, t2, t3, ht⟩ : ∃ t0 t1 t2 t3, den xs ys k = (t0, t1, t2, t3) := ⟨_, _, _, _, rfl⟩
        have HS := Lib.hid (show sm (ind xs ys) (k + 1) = sm (ind xs ys) k + (if t0 = 1 ∨ t0 = 3 then 1 else 0) by rw [sm, ind_of ht])
        have HD := Lib.hid (fun W h1 h2 => den_v (B := W.heap.size) (B' := W.heap.size) A3 A4 c3 c4 xs.length ys.length xs ys k W h1 h2 rfl rfl (by omega) (by omega) ht)
        clear ht
        obtain ⟨s', hs'⟩ : ∃ s', sm (ind xs ys) (k + 1) = s' := ⟨_, rfl⟩
        have HS' := Lib.hid hs'
        have HS2 := Lib.hid (hs'.symm.trans HS.out)
        clear hs'
        generalize sm (ind xs ys) k = s at *
        by_cases h1 : t0 = 1
        · subst h1
          have hs2 : s' = s + 1 := by rw [HS2.out]; simp
          go_wp2_with fail
          refine (HD.out _ hR.lt hS.lt).mono ?_
          rintro e w3 ⟨rfl, hb3⟩
          go_wp2
          go_roundw
          case rel => exact ⟨k + 1, by omega, by go_num, by rw [HS'.out, hs2], by (repeat' (first | (with_reducible exact Below.refl _ _) | (with_reducible refine bel_alloc ?_ ?_ _) | (with_reducible refine Below.setCell ?_ ?_ _) | (with_reducible refine below_drewN ?_ _) | (with_reducible refine Below.drew ?_) | (with_reducible refine bel_step hbr ?_ ?_) | (with_reducible refine bel_step hb3 ?_ ?_) | (with_reducible exact Nat.le_refl _) | (with_reducible assumption) | omega | (simp only [World.size_alloc, World.size_setCell, World.size_drew]; omega) | (simp; omega) | (simp; done))), by (repeat' (first | (with_reducible exact Below.refl _ _) | (with_reducible refine bel_alloc ?_ ?_ _) | (with_reducible refine Below.setCell ?_ ?_ _) | (with_reducible refine below_drewN ?_ _) | (with_reducible refine Below.drew ?_) | (with_reducible refine bel_step hb2 ?_ ?_) | (with_reducible refine bel_step hb3 ?_ ?_) | (with_reducible exact Nat.le_refl _) | (with_reducible assumption) | omega | (simp only [World.size_alloc, World.size_setCell, World.size_drew]; omega) | (simp; omega) | (simp; done)))⟩
          case measure => simp [intOf]; omega
        · have e1 : (t0 == 1) = false := by simpa using h1
          by_cases h3 : t0 = 3
          · subst h3
            have hs2 : s' = s + 1 := by rw [HS2.out]; simp
            go_wp2_with fail
            refine (HD.out _ hR.lt hS.lt).mono ?_
            rintro e w3 ⟨rfl, hb3⟩
            go_wp2
            go_roundw
            case rel => exact ⟨k + 1, by omega, by go_num, by rw [HS'.out, hs2], by (repeat' (first | (with_reducible exact Below.refl _ _) | (with_reducible refine bel_alloc ?_ ?_ _) | (with_reducible refine Below.setCell ?_ ?_ _) | (with_reducible refine below_drewN ?_ _) | (with_reducible refine Below.drew ?_) | (with_reducible refine bel_step hbr ?_ ?_) | (with_reducible refine bel_step hb3 ?_ ?_) | (with_reducible exact Nat.le_refl _) | (with_reducible assumption) | omega | (simp only [World.size_alloc, World.size_setCell, World.size_drew]; omega) | (simp; omega) | (simp; done))), by (repeat' (first | (with_reducible exact Below.refl _ _) | (with_reducible refine bel_alloc ?_ ?_ _) | (with_reducible refine Below.setCell ?_ ?_ _) | (with_reducible refine below_drewN ?_ _) | (with_reducible refine Below.drew ?_) | (with_reducible refine bel_step hb2 ?_ ?_) | (with_reducible refine bel_step hb3 ?_ ?_) | (with_reducible exact Nat.le_refl _) | (with_reducible assumption) | omega | (simp only [World.size_alloc, World.size_setCell, World.size_drew]; omega) | (simp; omega) | (simp; done)))⟩
            case measure => simp [intOf]; omega
          · have e3 : (t0 == 3) = false := by simpa using h3
            have hs2 : s' = s := by rw [HS2.out]; simp [h1, h3]
            go_wp2_with fail
            refine (HD.out _ hR.lt hS.lt).mono ?_
            rintro e w3 ⟨rfl, hb3⟩
            go_wp2
            go_roundw
            case rel => exact ⟨k + 1, by omega, by go_num, by rw [HS'.out, hs2], by (repeat' (first | (with_reducible exact Below.refl _ _) | (with_reducible refine bel_alloc ?_ ?_ _) | (with_reducible refine Below.setCell ?_ ?_ _) | (with_reducible refine below_drewN ?_ _) | (with_reducible refine Below.drew ?_) | (with_reducible refine bel_step hbr ?_ ?_) | (with_reducible refine bel_step hb3 ?_ ?_) | (with_reducible exact Nat.le_refl _) | (with_reducible assumption) | omega | (simp only [World.size_alloc, World.size_setCell, World.size_drew]; omega) | (simp; omega) | (simp; done))), by (repeat' (first | (with_reducible exact Below.refl _ _) | (with_reducible refine bel_alloc ?_ ?_ _) | (with_reducible refine Below.setCell ?_ ?_ _) | (with_reducible refine below_drewN ?_ _) | (with_reducible refine Below.drew ?_) | (with_reducible refine bel_step hb2 ?_ ?_) | (with_reducible refine bel_step hb3 ?_ ?_) | (with_reducible exact Nat.le_refl _) | (with_reducible assumption) | omega | (simp only [World.size_alloc, World.size_setCell, World.size_drew]; omega) | (simp; omega) | (simp; done)))⟩
            case measure => simp [intOf]; omega
      · obtain rfl : k = 512 := by omega
        have e1 : (sm (ind xs ys) 512 == sm (ind xs ys) 512) = true := by simp
        have hL := live_law HINV.out.ok
        have hF := frc_top HINV.out (by omega)
        have HC := Lib.hid (fun W (h1 : Rd W W.heap.size A3 (tv xs)) (h2 : Rd W W.heap.size A4 (tv ys)) => liveCells_i A3 A4 c3 c4 xs ys W h1 h2 (by omega) (by omega))
        have HF := Lib.hid (fun W (h1 : Rd W W.heap.size A3 (tv xs)) (h2 : Rd W W.heap.size A4 (tv ys)) => freeCode_i A3 A4 c3 c4 xs ys 511 W h1 h2 (by omega) (by omega))
        generalize liveN xs ys = s at *
        generalize sm (ind xs ys) 512 = s2 at *
        generalize frC (den xs ys 511) = f at *
        subst hL hF
        go_wp2_with fail
        refine (HC.out _ hR.lt hS.lt).mono ?_
        rintro e w3 ⟨rfl, hb3⟩
        go_wp2_with fail
        refine (HF.out _ (hR.below hb3).lt (hS.below hb3).lt).mono ?_
        rintro e w4 ⟨rfl, hb4⟩
        go_wp2
        go_ret
        exact ⟨rfl, by (repeat' (first | (with_reducible exact Below.refl _ _) | (with_reducible refine bel_alloc ?_ ?_ _) | (with_reducible refine Below.setCell ?_ ?_ _) | (with_reducible refine below_drewN ?_ _) | (with_reducible refine Below.drew ?_) | (with_reducible refine bel_step hbr ?_ ?_) | (with_reducible refine bel_step hb3 ?_ ?_) | (with_reducible refine bel_step hb4 ?_ ?_) | (with_reducible exact Nat.le_refl _) | (with_reducible assumption) | omega | (simp only [World.size_alloc, World.size_setCell, World.size_drew]; omega) | (simp; omega) | (simp; done)))⟩
end Go.Proofs.Ytjimpmdelnnflaa
