/- The walk of FnOffsets. -/
import Derived.Test.YtjimpmdelnnflaaLayW
import Derived.Test.YtjimpmdelnnflaaLayDt
import Derived.Test.YtjimpmdelnnflaaPlaces
namespace Go.Proofs.Ytjimpmdelnnflaa
open Go.ChangeShapes Go.WideShapes Go.ChangeAt Go.RowKit
set_option linter.unusedVariables false
set_option linter.unusedSimpArgs false

theorem den_v (A A' : Option Addr) (c c' n m : Nat) (xs ys : List T3) (a : Int) (w : World) {B B' : Nat} (hr : Rd w B A (tv xs)) (hs : Rd w B' A' (tv ys)) (hl : xs.length = n) (hl2 : ys.length = m) (hn : n ≤ 1048576) (hm : m ≤ 1048576) {t0 t1 t2 t3 : Int} (ht : den xs ys a = (t0, t1, t2, t3)) :
    Calls Try.prog 16 #[.slice A n c, .slice A' m c', .int .i64 a] w fun e w' => e = .returned (.agg #[.int .i64 t0, .int .i64 t1, .int .i64 t2, .int .i64 t3]) ∧ Below w.heap.size w w' := by
  subst hl hl2
  have h := den_i A A' c c' xs ys a w hr hs hn hm
  rw [ht] at h
  exact h
theorem den_small : den [(1, 2, 1)] [] 18 = (1, 0, 0, 2) := by decide +kernel
set_option maxRecDepth 100000 in
set_option maxHeartbeats 8000000 in
theorem law_offsets (A : Option Addr) (c : Nat) (bs : List Int) (w : World) (hr : Rd w w.heap.size A (bv bs)) (hbb : ∀ b ∈ bs, 0 ≤ b ∧ b ≤ 255) :
    Calls Try.prog 6 #[.slice A bs.length c] w fun e w' => e = .returned (.bool true) ∧ Below w.heap.size w w' := by
  by_cases hbig : (1048576 : Int) < bs.length
  · go_enter Try.func6, Try.ntmps6
    go_wp2_with (go_at_call 11; refine (big_any _ _ _ _).mono ?_; rintro e w ⟨rfl, rfl⟩)
    go_ret
    exact ⟨rfl, by (repeat' (first | (with_reducible exact Below.refl _ _) | (with_reducible refine bel_alloc ?_ ?_ _) | (with_reducible refine Below.setCell ?_ ?_ _) | (with_reducible refine below_drewN ?_ _) | (with_reducible refine Below.drew ?_) | (with_reducible exact Nat.le_refl _) | (with_reducible assumption) | omega | (simp only [World.size_alloc, World.size_setCell, World.size_drew]; omega) | (simp; omega) | (simp; done)))⟩
  · have hb : Bytes bs := ⟨by omega, hbb⟩
    go_enter Try.func6, Try.ntmps6
    go_wp2_with (go_at_call 11; refine (big_any _ _ _ _).mono ?_; rintro e w ⟨rfl, rfl⟩)
    refine (drawLayout_any A c bs _ hb hr).mono ?_
    rintro e w1 ⟨A3, c3, A4, c4, xs, ys, rfl, hinv, hxl, hyl, hR, hS, hb1⟩
    go_wp2_with fail
    refine (places_any _ A c bs _ hb (hr.below hb1) hb1.size).mono ?_
    rintro e w2 ⟨A2, c2, ps, rfl, hp, ho, hb2⟩
    obtain ⟨g, rfl, hg1, hg2, P, hP, hcell⟩ := places_at ho hp
    have q0 := hcell 0 (by omega)
    have hp0 := hP 0 (by omega)
    replace hR := hR.below hb2
    replace hS := hS.below hb2
    obtain ⟨a, ha⟩ : ∃ a, a = P 0 % 300 := ⟨_, rfl⟩
    have ha0 : 0 ≤ a ∧ a < 300 := by omega
    have HA := Lib.hid ha
    generalize P 0 = p0 at *
    clear hcell hP ho ha hinv hr
    obtain ⟨l1, l2, l3⟩ := off_law (xs := xs) (ys := ys) ha0.1
    obtain ⟨t0, t1, t2, t3, ht⟩ : ∃ t0 t1 t2 t3, den xs ys a = (t0, t1, t2, t3) := ⟨_, _, _, _, rfl⟩
    rw [ht] at l1 l2 l3
    simp only at l1 l2 l3
    have HD1 := Lib.hid (fun W h1 h2 => den_v (B := W.heap.size) (B' := W.heap.size) A3 A4 c3 c4 xs.length ys.length xs ys a W h1 h2 rfl rfl (by omega) (by omega) ht)
    have HD2 := Lib.hid (fun W h1 h2 => den_v (B := W.heap.size) (B' := W.heap.size) A3 A4 c3 c4 xs.length ys.length xs ys (a - t3) W h1 h2 rfl rfl (by omega) (by omega) l3)
    clear ht l3
    have e0 : (t0 == t0) = true := by simp
    have e1 : (t1 == t1) = true := by simp
    have e2 : (t2 == t2) = true := by simp
    have e3 : decide (0 ≤ t3) = true := by simp [l1]
    have hfld : ∀ w, (Instr.field 33 (.agg #[.int .i64 1, .int .i64 0, .int .i64 0, .int .i64 2]) 3).run Try.prog w = .ok (.int .i64 2) w := fun _ => by kernel_rfl
    generalize xs.length = nx at *
    generalize ys.length = ny at *
    cases A4
    all_goals
      go_wp2_with fail
      rw [← HA.out]
      refine (HD1.out _ hR.lt hS.lt).mono ?_
      rintro e w3 ⟨rfl, hb3⟩
      replace hR := hR.below hb3
      replace hS := hS.below hb3
      go_wp2_with fail
      refine (HD2.out _ (hR.alloc _).lt (hS.alloc _).lt).mono ?_
      rintro e w4 ⟨rfl, hb4⟩
      have o0 : w4.cell? ⟨w3.heap.size, 0, none⟩ = some (.int .i64 t0) := keep hb4 (by simp [go_sem])
      have o1 : w4.cell? ⟨w3.heap.size, 1, none⟩ = some (.int .i64 t1) := keep hb4 (by simp [go_sem])
      have o2 : w4.cell? ⟨w3.heap.size, 2, none⟩ = some (.int .i64 t2) := keep hb4 (by simp [go_sem])
      have o3 : w4.cell? ⟨w3.heap.size, 3, none⟩ = some (.int .i64 t3) := keep hb4 (by simp [go_sem])
      have hlo := lt_of_cell' o0
      go_wp2_with fail
      refine (den_v _ _ _ _ 1 0 [(1, 2, 1)] [] 18 _ (B' := 0) (Rd.lit (by simp)) Rd.nil rfl rfl (by omega) (by omega) den_small).mono ?_
      rintro e w5 ⟨rfl, hb5⟩
      go_wp2
      go_ret
      exact ⟨rfl, by (repeat' (first | (with_reducible exact Below.refl _ _) | (with_reducible refine bel_alloc ?_ ?_ _) | (with_reducible refine Below.setCell ?_ ?_ _) | (with_reducible refine below_drewN ?_ _) | (with_reducible refine Below.drew ?_) | (with_reducible refine bel_step hb1 ?_ ?_) | (with_reducible refine bel_step hb2 ?_ ?_) | (with_reducible refine bel_step hb3 ?_ ?_) | (with_reducible refine bel_step hb4 ?_ ?_) | (with_reducible refine bel_step hb5 ?_ ?_) | (with_reducible exact Nat.le_refl _) | (with_reducible assumption) | omega | (simp only [World.size_alloc, World.size_setCell, World.size_drew]; omega) | (simp; omega) | (simp; done)))⟩
end Go.Proofs.Ytjimpmdelnnflaa
