/- SpanCells of the reference. -/
import Derived.Test.YtjimpmdelnnflaaSpanD
namespace Go.Proofs.Ytjimpmdelnnflaa
open Go.ChangeShapes Go.WideShapes Go.ChangeAt Go.RowKit
set_option linter.unusedVariables false
set_option linter.unusedSimpArgs false

set_option maxRecDepth 100000 in
set_option maxHeartbeats 2000000 in
theorem spanCells_s (P C B : Int) (w : World) :
    Calls Try.prog 59 #[.agg #[.int .i64 P, .int .i64 C, .int .i64 B]] w (MadeIntSN (sCells P C B) w) := by
  have HO := Lib.hid (fun W => spanOk_s P C B W)
  obtain ⟨w1, hw1⟩ : ∃ w1, w1 = w.alloc (.cells #[.int .i64 P, .int .i64 C, .int .i64 B] 50) := ⟨_, rfl⟩
  have HW1 := Lib.hid hw1
  have q0 : w1.cell? ⟨w.heap.size, 0, none⟩ = some (.int .i64 P) := by rw [hw1]; simp [go_sem]
  have q1 : w1.cell? ⟨w.heap.size, 1, none⟩ = some (.int .i64 C) := by rw [hw1]; simp [go_sem]
  have q2 : w1.cell? ⟨w.heap.size, 2, none⟩ = some (.int .i64 B) := by rw [hw1]; simp [go_sem]
  have HBF := Lib.hid (show Below w.heap.size w w1 by rw [hw1]; exact (Below.refl _ _).alloc (Nat.le_refl _) _)
  have hO0 : ((w.alloc (.cells #[.int .i64 P, .int .i64 C, .int .i64 B] 50)).alloc (.cells #[] 3)).ownsRow (w.heap.size + 1) 3 1 (.slice (some ⟨w.heap.size + 1, 0, none⟩) 0 0) 0 [] := own_lit (by simp)
  clear hw1
  cases h1 : spOk P C B with
  | false =>
    have HR := Lib.hid (show sCells P C B = [] by simp [sCells, h1])
    rw [h1] at HO
    clear h1
    go_enter Try.func59, Try.ntmps59
    go_wp2
    go_loopw [3, 4] (fun u v wr => v = .int .i64 0 ∧ u = .slice (some ⟨w.heap.size + 1, 0, none⟩) 0 0 ∧ wr.ownsRow (w.heap.size + 1) 3 1 (.slice (some ⟨w.heap.size + 1, 0, none⟩) 0 0) 0 [] ∧ Below w1.heap.size w1 wr) (fun _ v _ => 16 - (intOf v).toNat)
    case atStart => exact ⟨rfl, rfl, hO0, by rw [HW1.out]; exact (Below.refl _ _).alloc (Nat.le_refl _) _⟩
    case round =>
      obtain ⟨rfl, rfl, hown, hbr⟩ := hrel
      replace q0 := keep hbr q0
      replace q1 := keep hbr q1
      replace q2 := keep hbr q2
      have hlq := lt_of_cell' q0
      go_wp2_with fail
      refine (HO.out _).mono ?_
      rintro e w5 ⟨rfl, hb5⟩
      replace hown := own_below' hown hb5
      go_wp2
      go_ret
      rw [HR.out]
      exact made_own (n := 0) rfl hown (by omega) (HBF.out.trans ((hbr.trans (hb5.mono (by have := hbr.size; omega))).mono (by rw [HW1.out]; simp)))
  | true =>
    have HR := Lib.hid (sCells_yes h1)
    obtain ⟨hP, hC, -⟩ := spOk_yes h1
    have hm := cs_pos hC
    have HCS := Lib.hid (fun W => classSize_s C W)
    have HS := Lib.hid (fun j => spc_succ C B j)
    have HL := Lib.hid (fun j => spc_len C B j)
    have HH := Lib.hid (fun i W => hasSlot_s B i W)
    rw [h1] at HO
    clear h1
    have HZ0 : spc C B 0 = [] := rfl
    generalize spc C B = sp at *
    generalize cs C = m at *
    generalize hhs : hasS B = hs at *
    clear hhs
    have HZ := Lib.hid (show sp 0 = [] from HZ0)
    clear HZ0
    have hne : (m == 0) = false := by simp; omega
    obtain ⟨it, hit, iz0, iz1, iz2⟩ := info_parts infoInt
    go_enter Try.func59, Try.ntmps59
    go_wp2
    go_loopw [3, 4] (fun u v wr => ∃ (j : Nat) (A2 : Option Addr) (c2 : Nat), j ≤ 16 ∧ v = .int .i64 j ∧ u = .slice A2 (sp j).length c2 ∧ wr.ownsRow (w.heap.size + 1) 3 1 (.slice A2 (sp j).length c2) (sp j).length (iv (sp j)) ∧ Below w1.heap.size w1 wr) (fun _ v _ => 16 - (intOf v).toNat)
    case atStart => exact ⟨0, some ⟨(w.heap.size + 1), 0, none⟩, 0, Nat.zero_le _, rfl, by rw [HZ.out]; rfl, by rw [HZ.out]; exact hO0, by rw [HW1.out]; exact (Below.refl _ _).alloc (Nat.le_refl _) _⟩
    case round =>
      obtain ⟨j, A2, c2, hj, rfl, rfl, hown, hbr⟩ := hrel
      have hzr := hbr.size
      rw [HW1.out] at hzr
      simp only [World.size_alloc] at hzr
      replace q0 := keep hbr q0
      replace q1 := keep hbr q1
      replace q2 := keep hbr q2
      have hlq := lt_of_cell' q0
      by_cases hlt : j < 16
      · have hjm : 0 ≤ (j : Int) / m := Int.ediv_nonneg (by omega) (by omega)
        have hjm2 : (j : Int) / m ≤ 16 := by have := Int.ediv_le_self (b := m) (show (0 : Int) ≤ (j : Int) by omega); omega
        have hll := HL.out j
        have hapt := own_lo hown
        cases hv : hs ((j : Int) / m) with
        | true =>
          have HV := Lib.hid (fun W => (show Calls Try.prog 48 #[.int .i64 B, .int .i64 ((j : Int) / m)] W fun e w' => e = .returned (.bool true) ∧ w' = W by have := HH.out ((j : Int) / m) W; rwa [hv] at this))
          have HN := Lib.hid (show sp (j + 1) = sp j ++ [(j : Int)] by rw [HS.out, hv]; rfl)
          clear hv
          go_wp2_with fail
          refine (HO.out _).mono ?_
          rintro e w5 ⟨rfl, hb5⟩
          replace hown := own_below' hown hb5
          replace q0 := keep hb5 q0
          replace q1 := keep hb5 q1
          replace q2 := keep hb5 q2
          have hlq5 := lt_of_cell' q0
          go_wp2
          go_quiet ((first | (go_at_call 75; exact Calls.quiet_of_same (HCS.out _)) | (go_at_call 48; exact Calls.quiet_of_same (HV.out _))))
          generalize hwd : World.drewN _ _ = wd at *
          have hbd : Below w5.heap.size w5 wd := by rw [← hwd]; exact below_drewN (Below.refl _ _) _
          replace hown := own_below' hown hbd
          have hbr2 : Below w1.heap.size w1 wd := by (repeat' (first | (with_reducible exact Below.refl _ _) | (with_reducible refine bel_alloc ?_ ?_ _) | (with_reducible refine Below.setCell ?_ ?_ _) | (with_reducible refine below_drewN ?_ _) | (with_reducible refine Below.drew ?_) | (with_reducible refine bel_step hbr ?_ ?_) | (with_reducible refine bel_step hb5 ?_ ?_) | (with_reducible refine bel_step hbd ?_ ?_) | (with_reducible exact Nat.le_refl _) | (with_reducible assumption) | omega | (simp only [World.size_alloc, World.size_setCell, World.size_drew]; omega) | (simp; omega) | (simp; done)))
          have hz2 := hbr2.size
          rw [HW1.out] at hz2
          simp only [World.size_alloc] at hz2
          clear hwd
          go_wp2_with (at_builtin; refine wpList_append_ow rfl (.tmp 22) (.tmp 24) _ rfl 3 it (.int .i64 0) 1 8 Try.underlying28 hit iz0 iz1 iz2 rfl (by omega) (w.heap.size + 1) A2 (sp j).length c2 (iv (sp j)) rfl (own_below' hown ((Below.refl _ _).alloc (Nat.le_refl _) _)) (some ⟨wd.heap.size, 0, none⟩) 1 1 (iv [(j : Int)]) rfl rfl (Rd.lit (by simp)) (iv_one _) (by unfold maxLen; omega) (by omega) (by simp; omega) ?_; intro A4 c4 w4 hO4 hS4 hA4)
          go_roundw
          case rel =>
            refine ⟨j + 1, A4, c4, by omega, by go_num, by rw [HN.out]; simp, by rw [HN.out, iv_app]; simpa using hO4, ?_⟩
            exact bel_outS hS4 (fun y hy => by have := hapt y hy; rw [HW1.out]; simp only [World.size_alloc]; omega) (by (repeat' (first | (with_reducible exact Below.refl _ _) | (with_reducible refine bel_alloc ?_ ?_ _) | (with_reducible refine Below.setCell ?_ ?_ _) | (with_reducible refine below_drewN ?_ _) | (with_reducible refine Below.drew ?_) | (with_reducible refine bel_step hbr2 ?_ ?_) | (with_reducible exact Nat.le_refl _) | (with_reducible assumption) | omega | (simp only [World.size_alloc, World.size_setCell, World.size_drew]; omega) | (simp; omega) | (simp; done)))) (Nat.le_refl _)
          case measure => simp [intOf]; omega
        | false =>
          have HV := Lib.hid (fun W => (show Calls Try.prog 48 #[.int .i64 B, .int .i64 ((j : Int) / m)] W fun e w' => e = .returned (.bool false) ∧ w' = W by have := HH.out ((j : Int) / m) W; rwa [hv] at this))
          have HN := Lib.hid (show sp (j + 1) = sp j by rw [HS.out, hv]; rfl)
          clear hv
          go_wp2_with fail
          refine (HO.out _).mono ?_
          rintro e w5 ⟨rfl, hb5⟩
          replace hown := own_below' hown hb5
          replace q0 := keep hb5 q0
          replace q1 := keep hb5 q1
          replace q2 := keep hb5 q2
          have hlq5 := lt_of_cell' q0
          go_wp2
          go_quiet ((first | (go_at_call 75; exact Calls.quiet_of_same (HCS.out _)) | (go_at_call 48; exact Calls.quiet_of_same (HV.out _))))
          go_wp2
          go_roundw
          case rel =>
            exact ⟨j + 1, A2, c2, by omega, by go_num, by rw [HN.out], by rw [HN.out]; exact own_below' hown (by (repeat' (first | (with_reducible exact Below.refl _ _) | (with_reducible refine bel_alloc ?_ ?_ _) | (with_reducible refine Below.setCell ?_ ?_ _) | (with_reducible refine below_drewN ?_ _) | (with_reducible refine Below.drew ?_) | (with_reducible exact Nat.le_refl _) | (with_reducible assumption) | omega | (simp only [World.size_alloc, World.size_setCell, World.size_drew]; omega) | (simp; omega) | (simp; done)))), by (repeat' (first | (with_reducible exact Below.refl _ _) | (with_reducible refine bel_alloc ?_ ?_ _) | (with_reducible refine Below.setCell ?_ ?_ _) | (with_reducible refine below_drewN ?_ _) | (with_reducible refine Below.drew ?_) | (with_reducible refine bel_step hbr ?_ ?_) | (with_reducible refine bel_step hb5 ?_ ?_) | (with_reducible exact Nat.le_refl _) | (with_reducible assumption) | omega | (simp only [World.size_alloc, World.size_setCell, World.size_drew]; omega) | (simp; omega) | (simp; done)))⟩
          case measure => simp [intOf]; omega
      · obtain rfl : j = 16 := by omega
        go_wp2
        go_ret
        rw [HR.out]
        exact made_own rfl hown (by omega) (HBF.out.trans (hbr.mono (by rw [HW1.out]; simp)))
end Go.Proofs.Ytjimpmdelnnflaa
