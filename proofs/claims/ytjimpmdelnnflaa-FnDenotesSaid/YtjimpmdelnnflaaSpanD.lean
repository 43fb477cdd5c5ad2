/- SpanCells, of the program and of the reference. -/
import Derived.Test.YtjimpmdelnnflaaSpanB
import Derived.Test.YtjimpmdelnnflaaIntN
import Derived.Test.YtjimpmdelnnflaaInfo
namespace Go.Proofs.Ytjimpmdelnnflaa
open Go.ChangeShapes Go.WideShapes Go.ChangeAt Go.RowKit
set_option linter.unusedVariables false
set_option linter.unusedSimpArgs false

def spc (C B : Int) (j : Nat) : List Int := ((List.range j).filter (fun i : Nat => hasS B ((i : Int) / cs C))).map (fun i : Nat => (i : Int))
theorem spc_succ (C B : Int) (j : Nat) : spc C B (j + 1) = if hasS B ((j : Int) / cs C) = true then spc C B j ++ [(j : Int)] else spc C B j := by
  simp only [spc, List.range_succ, List.filter_append, List.map_append]
  by_cases h : hasS B ((j : Int) / cs C) = true <;> simp [h]
theorem spc_len (C B : Int) : ∀ j, (spc C B j).length ≤ j
  | 0 => by simp [spc]
  | j + 1 => by
    have := spc_len C B j
    rw [spc_succ]
    split <;> simp <;> omega
theorem sCells_yes {P C B : Int} (h : spOk P C B = true) : sCells P C B = spc C B 16 := by simp [sCells, spc, h]
set_option maxRecDepth 100000 in
set_option maxHeartbeats 2000000 in
theorem spanCells_i (P C B : Int) (w : World) :
    Calls Try.prog 58 #[.agg #[.int .i64 P, .int .i64 C, .int .i64 B]] w (MadeIntSN (sCells P C B) w) := by
  have HO := Lib.hid (fun W => spanOk_i P C B W)
  cases h1 : spOk P C B with
  | false =>
    have HR := Lib.hid (show sCells P C B = [] by simp [sCells, h1])
    rw [h1] at HO
    clear h1
    go_enter Try.func58, Try.ntmps58
    go_wp2_with fail
    refine (HO.out _).mono ?_
    rintro e w1 ⟨rfl, hb1⟩
    go_wp2
    rw [HR.out]
    refine bodyPost_ret (v := .slice none 0 0) (by simp [results, Try.results58, go_sem]) rfl (made_nil _ _ ?_)
    (repeat' (first | (with_reducible exact Below.refl _ _) | (with_reducible refine bel_alloc ?_ ?_ _) | (with_reducible refine Below.setCell ?_ ?_ _) | (with_reducible refine below_drewN ?_ _) | (with_reducible refine Below.drew ?_) | (with_reducible refine bel_step hb1 ?_ ?_) | (with_reducible exact Nat.le_refl _) | (with_reducible assumption) | omega | (simp only [World.size_alloc, World.size_setCell, World.size_drew]; omega) | (simp; omega) | (simp; done)))
  | true =>
    have HR := Lib.hid (sCells_yes h1)
    obtain ⟨hP, hC, -⟩ := spOk_yes h1
    have hm := cs_pos hC
    have HCS := Lib.hid (fun W => classSize_i C W)
    have HS := Lib.hid (fun j => spc_succ C B j)
    have HL := Lib.hid (fun j => spc_len C B j)
    have HH := Lib.hid (fun i W => hasSlot_i B i W)
    rw [h1] at HO
    clear h1
    have HZ0 : spc C B 0 = [] := rfl
    generalize spc C B = sp at *
    generalize cs C = m at *
    generalize hhs : hasS B = hs at *
    clear hhs
    have HZ := Lib.hid (show sp 0 = [] from HZ0)
    clear HZ0
    have hne : (m == 0) = false := by simp; omega
    obtain ⟨it, hit, iz0, iz1, iz2⟩ := info_parts infoInt
    go_enter Try.func58, Try.ntmps58
    go_wp2_with fail
    refine (HO.out _).mono ?_
    rintro e w1 ⟨rfl, hb1⟩
    have q0 : w1.cell? ⟨w.heap.size, 0, none⟩ = some (.int .i64 P) := keep hb1 (by simp [go_sem])
    have q1 : w1.cell? ⟨w.heap.size, 1, none⟩ = some (.int .i64 C) := keep hb1 (by simp [go_sem])
    have q2 : w1.cell? ⟨w.heap.size, 2, none⟩ = some (.int .i64 B) := keep hb1 (by simp [go_sem])
    have hO0 := own_lit (w := w1) (g := w1.heap.size) (e := 3) (size := 1) rfl
    have hz1 := hb1.size
    simp only [World.size_alloc] at hz1
    go_wp2
    go_loopw [3, 4] (fun u v wr => ∃ (j : Nat) (A2 : Option Addr) (c2 : Nat), j ≤ 16 ∧ v = .int .i64 j ∧ u = .slice A2 (sp j).length c2 ∧ wr.ownsRow w1.heap.size 3 1 (.slice A2 (sp j).length c2) (sp j).length (iv (sp j)) ∧ Below w1.heap.size w1 wr) (fun _ v _ => 16 - (intOf v).toNat)
    case atStart => exact ⟨0, some ⟨w1.heap.size, 0, none⟩, 0, Nat.zero_le _, rfl, by rw [HZ.out]; rfl, by rw [HZ.out]; exact hO0, by (repeat' (first | (with_reducible exact Below.refl _ _) | (with_reducible refine bel_alloc ?_ ?_ _) | (with_reducible refine Below.setCell ?_ ?_ _) | (with_reducible refine below_drewN ?_ _) | (with_reducible refine Below.drew ?_) | (with_reducible exact Nat.le_refl _) | (with_reducible assumption) | omega | (simp only [World.size_alloc, World.size_setCell, World.size_drew]; omega) | (simp; omega) | (simp; done)))⟩
    case round =>
      obtain ⟨j, A2, c2, hj, rfl, rfl, hown, hbr⟩ := hrel
      replace q0 := keep hbr q0
      replace q1 := keep hbr q1
      replace q2 := keep hbr q2
      have hlq := lt_of_cell' q0
      by_cases hlt : j < 16
      · have hjm : 0 ≤ (j : Int) / m := Int.ediv_nonneg (by omega) (by omega)
        have hjm2 : (j : Int) / m ≤ 16 := by have := Int.ediv_le_self (b := m) (show (0 : Int) ≤ (j : Int) by omega); omega
        have hll := HL.out j
        have hapt := own_lo hown
        cases hv : hs ((j : Int) / m) with
        | true =>
          have HV := Lib.hid (fun W => (show Calls Try.prog 40 #[.int .i64 B, .int .i64 ((j : Int) / m)] W fun e w' => e = .returned (.bool true) ∧ w' = W by have := HH.out ((j : Int) / m) W; rwa [hv] at this))
          have HN := Lib.hid (show sp (j + 1) = sp j ++ [(j : Int)] by rw [HS.out, hv]; rfl)
          clear hv
          go_wp2
          go_quiet ((first | (go_at_call 65; exact Calls.quiet_of_same (HCS.out _)) | (go_at_call 40; exact Calls.quiet_of_same (HV.out _))))
          generalize hwd : World.drewN _ _ = wd at *
          have hbd : Below wr.heap.size wr wd := by rw [← hwd]; exact below_drewN (Below.refl _ _) _
          replace hown := own_below' hown hbd
          have hbr2 : Below w1.heap.size w1 wd := by (repeat' (first | (with_reducible exact Below.refl _ _) | (with_reducible refine bel_alloc ?_ ?_ _) | (with_reducible refine Below.setCell ?_ ?_ _) | (with_reducible refine below_drewN ?_ _) | (with_reducible refine Below.drew ?_) | (with_reducible refine bel_step hbr ?_ ?_) | (with_reducible refine bel_step hbd ?_ ?_) | (with_reducible exact Nat.le_refl _) | (with_reducible assumption) | omega | (simp only [World.size_alloc, World.size_setCell, World.size_drew]; omega) | (simp; omega) | (simp; done)))
          have hz2 := hbr2.size
          clear hwd
          go_wp2_with (at_builtin; refine wpList_append_ow rfl (.tmp 21) (.tmp 23) _ rfl 3 it (.int .i64 0) 1 8 Try.underlying28 hit iz0 iz1 iz2 rfl (by omega) w1.heap.size A2 (sp j).length c2 (iv (sp j)) rfl (own_below' hown ((Below.refl _ _).alloc (Nat.le_refl _) _)) (some ⟨wd.heap.size, 0, none⟩) 1 1 (iv [(j : Int)]) rfl rfl (Rd.lit (by simp)) (iv_one _) (by unfold maxLen; omega) (by omega) (by simp; omega) ?_; intro A4 c4 w4 hO4 hS4 hA4)
          go_roundw
          case rel =>
            refine ⟨j + 1, A4, c4, by omega, by go_num, by rw [HN.out]; simp, by rw [HN.out, iv_app]; simpa using hO4, ?_⟩
            exact bel_outS hS4 (fun y hy => by have := hapt y hy; omega) (by (repeat' (first | (with_reducible exact Below.refl _ _) | (with_reducible refine bel_alloc ?_ ?_ _) | (with_reducible refine Below.setCell ?_ ?_ _) | (with_reducible refine below_drewN ?_ _) | (with_reducible refine Below.drew ?_) | (with_reducible refine bel_step hbr2 ?_ ?_) | (with_reducible exact Nat.le_refl _) | (with_reducible assumption) | omega | (simp only [World.size_alloc, World.size_setCell, World.size_drew]; omega) | (simp; omega) | (simp; done)))) (Nat.le_refl _)
          case measure => simp [intOf]; omega
        | false =>
          have HV := Lib.hid (fun W => (show Calls Try.prog 40 #[.int .i64 B, .int .i64 ((j : Int) / m)] W fun e w' => e = .returned (.bool false) ∧ w' = W by have := HH.out ((j : Int) / m) W; rwa [hv] at this))
          have HN := Lib.hid (show sp (j + 1) = sp j by rw [HS.out, hv]; rfl)
          clear hv
          go_wp2
          go_quiet ((first | (go_at_call 65; exact Calls.quiet_of_same (HCS.out _)) | (go_at_call 40; exact Calls.quiet_of_same (HV.out _))))
          go_wp2
          go_roundw
          case rel =>
            exact ⟨j + 1, A2, c2, by omega, by go_num, by rw [HN.out], by rw [HN.out]; exact own_below' hown (by (repeat' (first | (with_reducible exact Below.refl _ _) | (with_reducible refine bel_alloc ?_ ?_ _) | (with_reducible refine Below.setCell ?_ ?_ _) | (with_reducible refine below_drewN ?_ _) | (with_reducible refine Below.drew ?_) | (with_reducible exact Nat.le_refl _) | (with_reducible assumption) | omega | (simp only [World.size_alloc, World.size_setCell, World.size_drew]; omega) | (simp; omega) | (simp; done)))), by (repeat' (first | (with_reducible exact Below.refl _ _) | (with_reducible refine bel_alloc ?_ ?_ _) | (with_reducible refine Below.setCell ?_ ?_ _) | (with_reducible refine below_drewN ?_ _) | (with_reducible refine Below.drew ?_) | (with_reducible refine bel_step hbr ?_ ?_) | (with_reducible exact Nat.le_refl _) | (with_reducible assumption) | omega | (simp only [World.size_alloc, World.size_setCell, World.size_drew]; omega) | (simp; omega) | (simp; done)))⟩
          case measure => simp [intOf]; omega
      · obtain rfl : j = 16 := by omega
        go_wp2
        go_ret
        rw [HR.out]
        exact made_own rfl hown (by omega) (by (repeat' (first | (with_reducible exact Below.refl _ _) | (with_reducible refine bel_alloc ?_ ?_ _) | (with_reducible refine Below.setCell ?_ ?_ _) | (with_reducible refine below_drewN ?_ _) | (with_reducible refine Below.drew ?_) | (with_reducible refine bel_step hb1 ?_ ?_) | (with_reducible refine bel_step hbr ?_ ?_) | (with_reducible exact Nat.le_refl _) | (with_reducible assumption) | omega | (simp only [World.size_alloc, World.size_setCell, World.size_drew]; omega) | (simp; omega) | (simp; done))))
end Go.Proofs.Ytjimpmdelnnflaa
