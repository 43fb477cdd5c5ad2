/- The walk of FnExpired. -/
import Derived.Test.YteafpfmndjeanaaQuarY
import Derived.Deep.RegionHeld3
import Derived.Deep.DrawnRows
namespace Go.Proofs.Yteafpfmndjeanaa
open Go.ChangeShapes Go.WideShapes Go.ChangeAt Go.RowKit
set_option linter.unusedVariables false
set_option linter.unusedSimpArgs false
attribute [local go_sem ↓] Go.wp_at_zero Go.wp_at_succ

theorem tv_app (a b : List St) : tv (a ++ b) = tv a ++ tv b := by simp [tv]
theorem qOk_b {r : Int} {xs : List St} (h : qOkB r xs = true) : ∀ x ∈ xs, 0 ≤ x.2.2 := fun x hx => qOk_pos h hx
set_option maxRecDepth 100000 in
set_option maxHeartbeats 8000000 in
theorem law_expired (A : Option Addr) (c : Nat) (bs : List Int) (w : World) (hr : Rd w w.heap.size A (bv bs)) (hbb : ∀ b ∈ bs, 0 ≤ b ∧ b ≤ 255) :
    Calls Try.prog 6 #[.slice A bs.length c] w fun e w' => e = .returned (.bool true) ∧ Below w.heap.size w w' := by
  by_cases hbig : (1048576 : Int) < bs.length
  · go_enter Try.func6, Try.ntmps6
    go_wp2_with (go_at_call 21; refine (big_any _ _ _ _).mono ?_; rintro e w ⟨rfl, rfl⟩)
    go_ret
    exact ⟨rfl, by (repeat' (first | (with_reducible exact Below.refl _ _) | (with_reducible refine bel_alloc ?_ ?_ _) | (with_reducible refine Below.setCell ?_ ?_ _) | (with_reducible refine below_drewN ?_ _) | (with_reducible refine Below.drew ?_) | (with_reducible exact Nat.le_refl _) | (with_reducible assumption) | omega | (simp only [World.size_alloc, World.size_setCell, World.size_drew]; omega) | (simp; omega) | (simp; done)))⟩
  · have hb : Bytes bs := ⟨by omega, hbb⟩
    go_enter Try.func6, Try.ntmps6
    go_wp2_with (go_at_call 21; refine (big_any _ _ _ _).mono ?_; rintro e w ⟨rfl, rfl⟩)
    refine (drawQuar_any A c bs _ hb hr).mono ?_
    rintro e w1 ⟨r, A1, c1, xs, rfl, hok, hsm, hR, hcap, hb1⟩
    have hz1 := hb1.size
    go_wp2_with fail
    refine (places_any _ A c bs _ hb ((hr.below hb1).alloc _) (by simp; omega)).mono ?_
    rintro e w2 ⟨A2, c2, ps, rfl, hp, ho, hb2⟩
    have q0 : w2.cell? ⟨w1.heap.size, 0, none⟩ = some (.int .i64 r) := keep hb2 (by simp [go_sem])
    have q1 : w2.cell? ⟨w1.heap.size, 1, none⟩ = some (.slice A1 xs.length c1) := keep hb2 (by simp [go_sem])
    obtain ⟨g, rfl, hg1, hg2, P, hP, hcell⟩ := places_at ho hp
    have p0 := hcell 0 (by omega)
    have p1 := hcell 1 (by omega)
    have hp0 := hP 0 (by omega)
    have hp1 := hP 1 (by omega)
    replace hR := (hR.alloc (.cells #[.int .i64 r, .slice A1 xs.length c1] 24)).below hb2
    have hl500 := qOk_len hok
    obtain ⟨now, hnow⟩ : ∃ n, n = P 0 % 60 := ⟨_, rfl⟩
    obtain ⟨age, hage⟩ : ∃ n, n = P 1 % 20 := ⟨_, rfl⟩
    have hn0 : 0 ≤ now ∧ now < 60 := by omega
    have ha0 : 0 ≤ age ∧ age < 20 := by omega
    have HN := Lib.hid hnow
    have HA := Lib.hid hage
    have HK := Lib.hid hok
    have HSM := Lib.hid hsm
    have HSQ := Lib.hid (qOk_iff.1 hok).1
    generalize P 0 = v0 at *
    generalize P 1 = v1 at *
    clear hcell hP ho hnow hage hok hsm hr
    have hel := expN_le now age xs
    obtain ⟨ys, hys⟩ : ∃ ys, ys = xs.drop (expN now age xs) := ⟨_, rfl⟩
    obtain ⟨zs, hzs⟩ : ∃ zs, zs = xs.take (expN now age xs) := ⟨_, rfl⟩
    have HEX := Lib.hid (fun W h => quarExpire_i_yes (B := W.heap.size) r A1 xs.length c1 xs now age W h rfl (by omega) hcap HK.out (btw_t (by omega) (by omega)) (btw_t (by omega) (by omega)) (fun x hx => ⟨qOk_b HK.out x hx, by have := (HSM.out x hx).2; omega⟩) ys zs hys hzs)
    have HOY := Lib.hid (show qOkB r ys = true by rw [hys]; exact qOk_exp HK.out _)
    have HZ := Lib.hid (show ∀ i (hi : i < zs.length), age < now - zs[i].2.2 ∧ hasA ys zs[i].1 = false ∧ 0 ≤ zs[i].2.2 ∧ zs[i].2.2 ≤ 100 from fun i hi => by
      have hi2 : i < xs.length := by rw [hzs] at hi; simp at hi; omega
      have hi3 : i < expN now age xs := by rw [hzs] at hi; simp at hi; omega
      have e : zs[i] = xs[i] := by simp only [hzs, List.getElem_take]
      rw [e, hys]
      exact ⟨exp_at hi2 hi3, cut_apart HSQ.out hi2 hi3, qOk_b HK.out _ (List.getElem_mem hi2), (HSM.out _ (List.getElem_mem hi2)).2⟩)
    have HY := Lib.hid (show ∀ y ∈ ys, (¬ age < now - y.2.2) ∧ 0 ≤ y.2.2 ∧ y.2.2 ≤ 100 from fun y hy => by
      rw [hys] at hy
      exact ⟨exp_rest HSQ.out y hy, qOk_b HK.out _ (List.mem_of_mem_drop hy), (HSM.out _ (List.mem_of_mem_drop hy)).2⟩)
    have hyl : ys.length ≤ 500 := by rw [hys]; simp; omega
    have hzl : zs.length ≤ 500 := by rw [hzs]; simp; omega
    have HXX := Lib.hid (show zs ++ ys = xs by rw [hys, hzs, List.take_append_drop])
    have HLL := Lib.hid (show xs.length = zs.length + ys.length by rw [← HXX.out]; simp)
    clear hel hys hzs
    go_wp2_with fail
    rw [← HN.out, ← HA.out]
    refine (HEX.out _ hR.lt).mono ?_
    rintro e w3 ⟨A3, c3, A4, c4, S3, S4, rfl, hW3, hW4, hN3, hN4, -, hb3, hcap3⟩
    replace q0 := keep hb3 q0
    replace q1 := keep hb3 q1
    replace hR := hR.below hb3
    have hRy := hW3.rd
    have hRz := hW4.rd
    have hbw3 : Below w.heap.size w w3 := by (repeat' (first | (with_reducible exact Below.refl _ _) | (with_reducible refine bel_alloc ?_ ?_ _) | (with_reducible refine Below.setCell ?_ ?_ _) | (with_reducible refine below_drewN ?_ _) | (with_reducible refine Below.drew ?_) | (with_reducible refine bel_step hb1 ?_ ?_) | (with_reducible refine bel_step hb2 ?_ ?_) | (with_reducible refine bel_step hb3 ?_ ?_) | (with_reducible exact Nat.le_refl _) | (with_reducible assumption) | omega | (simp only [World.size_alloc, World.size_setCell, World.size_drew]; omega) | (simp; omega) | (simp; done)))
    clear hW3 hW4 hN3 hN4 hb1 hb2 hb3 p0 p1
    go_wp2
    go_loopw [9] (fun v wr => ∃ i : Nat, i ≤ zs.length ∧ v = .int .i64 i ∧ wr.cell? ⟨w3.heap.size, 0, none⟩ = some (.int .i64 r) ∧ wr.cell? ⟨w3.heap.size, 1, none⟩ = some (.slice A3 ys.length c3) ∧ Below w3.heap.size w3 wr) (fun v _ => zs.length - (intOf v).toNat)
    case atStart => exact ⟨0, Nat.zero_le _, rfl, by simp [go_sem], by simp [go_sem], by (repeat' (first | (with_reducible exact Below.refl _ _) | (with_reducible refine bel_alloc ?_ ?_ _) | (with_reducible refine Below.setCell ?_ ?_ _) | (with_reducible refine below_drewN ?_ _) | (with_reducible refine Below.drew ?_) | (with_reducible exact Nat.le_refl _) | (with_reducible assumption) | omega | (simp only [World.size_alloc, World.size_setCell, World.size_drew]; omega) | (simp; omega) | (simp; done)))⟩
    case round =>
      obtain ⟨i, hi, rfl, y0, y1, hbr⟩ := hrel
      by_cases hlt : i < zs.length
      · obtain ⟨h1, h2, h3, h4⟩ := HZ.out i hlt
        obtain ⟨b, off, rfl, -, hc0, hc1, hc2⟩ := (hRz.below hbr).trip hlt
        have hRy2 := (hRy.below hbr).lt
        generalize zs[i].1 = x1 at *
        generalize zs[i].2.1 = x2 at *
        generalize zs[i].2.2 = x3 at *
        have hle : decide (now - x3 ≤ age) = false := by simp; omega
        have i0 : (0 : Int) ≤ (i : Int) := by omega
        have i1 : (i : Int) < (zs.length : Int) := by omega
        have k0 := cell_regrown hc0
        have k1 := cell_regrown hc1
        have k2 := cell_regrown hc2
        have j0 := cell_regrown y0
        have j1 := cell_regrown y1
        have cE := fun d os => Calls.regrown_of (quarHas_v r A3 ys.length c3 ys x1 (Go.Sort.grow (redrawn wr d) os) (hRy2.below (below_regrown wr d os)) rfl (by omega) h2)
        clear h1 h2 hc1
        go_wp2
        refine wp_region_quiet_below (by kernel_rfl) (by kernel_rfl) ?_
        repeat (first | go_big_quiet_step (first | (with_reducible exact cE _ _)) | quiet_step (first | (with_reducible exact cE _ _)))
        refine wpQuiet_nil ?_
        intro _ hw_q
        obtain ⟨⟨dq, osq⟩, hw_q'⟩ := hw_q
        subst hw_q'
        have hbq := below_regrown wr dq osq
        generalize Go.Sort.grow (redrawn wr dq) osq = wq at *
        replace y0 := keep hbq y0
        replace y1 := keep hbq y1
        go_wp2
        go_roundw
        case rel => exact ⟨i + 1, by omega, by go_num, y0, y1, by (repeat' (first | (with_reducible exact Below.refl _ _) | (with_reducible refine bel_alloc ?_ ?_ _) | (with_reducible refine Below.setCell ?_ ?_ _) | (with_reducible refine below_drewN ?_ _) | (with_reducible refine Below.drew ?_) | (with_reducible refine bel_step hbr ?_ ?_) | (with_reducible refine bel_step hbq ?_ ?_) | (with_reducible exact Nat.le_refl _) | (with_reducible assumption) | omega | (simp only [World.size_alloc, World.size_setCell, World.size_drew]; omega) | (simp; omega) | (simp; done)))⟩
        case measure => simp [intOf]; omega
      · obtain rfl : i = zs.length := by omega
        go_wp2
        go_loopw [10] (fun v wx => ∃ i : Nat, i ≤ ys.length ∧ v = .int .i64 i ∧ wx.cell? ⟨w3.heap.size, 0, none⟩ = some (.int .i64 r) ∧ wx.cell? ⟨w3.heap.size, 1, none⟩ = some (.slice A3 ys.length c3) ∧ Below w3.heap.size w3 wx) (fun v _ => ys.length - (intOf v).toNat)
        case atStart => exact ⟨0, Nat.zero_le _, rfl, y0, y1, hbr⟩
        case round =>
          obtain ⟨wx, hwx⟩ : ∃ wx : World, wx = wr := ⟨_, rfl⟩
          subst hwx
          clear hbr y0 y1
          obtain ⟨i, hi, rfl, y0, y1, hbr⟩ := hrel
          by_cases hlt : i < ys.length
          · obtain ⟨h1, h3, h4⟩ := HY.out ys[i] (List.getElem_mem hlt)
            obtain ⟨b, off, rfl, -, hc0, hc1, hc2⟩ := (hRy.below hbr).trip hlt
            generalize ys[i].1 = x1 at *
            generalize ys[i].2.1 = x2 at *
            generalize ys[i].2.2 = x3 at *
            have i0 : (0 : Int) ≤ (i : Int) := by omega
            have i1 : (i : Int) < (ys.length : Int) := by omega
            go_wp2
            go_roundw
            case rel => exact ⟨i + 1, by omega, by go_num, y0, y1, hbr⟩
            case measure => simp [intOf]; omega
          · obtain rfl : i = ys.length := by omega
            have q1x := keep hbr q1
            have hRyx := (hRy.below hbr).lt
            have hRzx := (hRz.below hbr).lt
            have hRx := (hR.below hbr).lt
            have hbwx : Below w.heap.size w wx := by (repeat' (first | (with_reducible exact Below.refl _ _) | (with_reducible refine bel_alloc ?_ ?_ _) | (with_reducible refine Below.setCell ?_ ?_ _) | (with_reducible refine below_drewN ?_ _) | (with_reducible refine Below.drew ?_) | (with_reducible refine bel_step hbw3 ?_ ?_) | (with_reducible refine bel_step hbr ?_ ?_) | (with_reducible exact Nat.le_refl _) | (with_reducible assumption) | omega | (simp only [World.size_alloc, World.size_setCell, World.size_drew]; omega) | (simp; omega) | (simp; done)))
            have hzx := hbwx.size
            obtain ⟨it, hit, iz0, iz1, iz2⟩ := info_parts infoStale
            have HLZ := Lib.hid (show (tv zs).length = zs.length * 3 from tv_length zs)
            have HLY := Lib.hid (show (tv ys).length = ys.length * 3 from tv_length ys)
            have HTV := Lib.hid (show tv zs ++ tv ys = tv xs by rw [← tv_app, HXX.out])
            have ly0 := lt_of_cell' y0
            have lq1 := lt_of_cell' q1x
            clear q0 q1 hR hRy hRz hbr hi hlt
            go_wp2_with fail
            go_region_held3 (fun w' => w'.cell? ⟨w3.heap.size, 0, none⟩ = some (.int .i64 r) ∧ w'.cell? ⟨w3.heap.size, 1, none⟩ = some (.slice A3 ys.length c3) ∧ w'.cell? ⟨w1.heap.size, 1, none⟩ = some (.slice A1 xs.length c1))
              (first | exact ⟨y0, y1, q1x⟩ | exact ⟨cell_al y0 _, cell_al y1 _, cell_al q1x _⟩ | exact ⟨cell_ald y0 _, cell_ald y1 _, cell_ald q1x _⟩ | exact ⟨y05, y15, q15⟩ | exact ⟨y06, y16, q16⟩ | exact ⟨y07, y17, q17⟩ | exact ⟨y08, y18, q18⟩ | fail)
              (first | (refine step_append_new (by rfl) (.tmp 73) (.tmp 74) _ (by rfl) 47 it (.agg #[.int .i64 0, .int .i64 0, .int .i64 0]) 3 24 Try.underlying22 hit iz0 iz1 iz2 (by rfl) (by omega) wx.heap.size ?q1 ?q2 A4 zs.length c4 (tv zs) ?q3 HLZ.out (B := wx.heap.size) ?q4 (tv_one _) ?q5 ?q6 ?q7 ?q8; (case q1 => rfl); (case q2 => exact own_lit (w := wx) rfl); (case q3 => rfl); (case q4 => exact hRzx.alloc _); (case q5 => unfold maxLen; omega); (case q6 => omega); (case q7 => simp); intro A5 c5 w5 ho5 hS5 hA5; replace ho5 := ho5.1; have y05 := hS5.cell (cell_ald y0 _) (fun h => by simp only at h; omega); have y15 := hS5.cell (cell_ald y1 _) (fun h => by simp only at h; omega); have q15 := hS5.cell (cell_ald q1x _) (fun h => by simp only at h; omega); have hr5 := Rd.outS (hRyx.ald _) hS5 (fun b hb => by rw [hb]; exact Nat.le_refl _); have hq5 := Rd.outS (hRx.ald _) hS5 (fun b hb => by rw [hb]; exact Nat.le_refl _); have hz5 := hS5.size; simp only [World.size_alloc, World.size_drew] at hz5) | (refine step_append_ow (by rfl) (.tmp 75) (.tmp 77) _ (by rfl) 47 it (.agg #[.int .i64 0, .int .i64 0, .int .i64 0]) 3 24 Try.underlying22 hit iz0 iz1 iz2 (by rfl) (by omega) wx.heap.size A5 zs.length c5 (tv zs) ?s1 ?s2 A3 ys.length c3 (tv ys) ?s3 HLY.out (B := wx.heap.size) ?s4 (tv_one _) ?s5 ?s6 ?s7 ?s8; (case s1 => rfl); (case s2 => exact ho5); (case s3 => rfl); (case s4 => exact hr5); (case s5 => unfold maxLen; omega); (case s6 => omega); (case s7 => omega); intro A6 c6 w6 ho6 hS6 hA6; have hl6 := own_low ho5; have y06 := hS6.cell y05 (fun h => by have := hl6 _ h; simp only at this; omega); have y16 := hS6.cell y15 (fun h => by have := hl6 _ h; simp only at this; omega); have q16 := hS6.cell q15 (fun h => by have := hl6 _ h; simp only at this; omega); have hr6 := hr5.outS hS6 hl6; have hq6 := hq5.outS hS6 hl6; have hR6 := Rd.own ho6; rw [HTV.out] at hR6) | (go_at_call 25; (refine (sameStale_same A6 A1 (zs.length + ys.length) xs.length c6 c1 xs w6 hR6 hq6 HLL.out rfl (by omega)).mono ?_); rintro e w7 ⟨rfl, hb7⟩; have y07 := keep hb7 y06; have y17 := keep hb7 y16; have q17 := keep hb7 q16; have hr7 := hr6.below hb7) | (go_at_call 20; (refine (quarOk_i r A3 ys.length c3 ys w7 true hr7 rfl (by omega) hcap3 HOY.out).mono ?_); rintro e w8 ⟨rfl, hb8⟩; have y08 := keep hb8 y07; have y18 := keep hb8 y17; have q18 := keep hb8 q17) | fail)
            all_goals
              have hf5 : Below w.heap.size w w5 := bel_outS hS5 (fun b hb => by rw [hb]; exact hzx) (by (repeat' (first | (with_reducible exact Below.refl _ _) | (with_reducible refine bel_alloc ?_ ?_ _) | (with_reducible refine Below.setCell ?_ ?_ _) | (with_reducible refine below_drewN ?_ _) | (with_reducible refine Below.drew ?_) | (with_reducible refine bel_step hbwx ?_ ?_) | (with_reducible exact Nat.le_refl _) | (with_reducible assumption) | omega | (simp only [World.size_alloc, World.size_setCell, World.size_drew]; omega) | (simp; omega) | (simp; done)))) (Nat.le_refl _)
              have hf6 : Below w.heap.size w w6 := bel_outS hS6 (fun b h => Nat.le_trans hzx (own_low ho5 b h)) hf5 (Nat.le_refl _)
              go_wp2
              go_ret
              exact ⟨rfl, by (repeat' (first | (with_reducible exact Below.refl _ _) | (with_reducible refine bel_alloc ?_ ?_ _) | (with_reducible refine Below.setCell ?_ ?_ _) | (with_reducible refine below_drewN ?_ _) | (with_reducible refine Below.drew ?_) | (with_reducible refine bel_step hf6 ?_ ?_) | (with_reducible refine bel_step hb7 ?_ ?_) | (with_reducible refine bel_step hb8 ?_ ?_) | (with_reducible exact Nat.le_refl _) | (with_reducible assumption) | omega | (simp only [World.size_alloc, World.size_setCell, World.size_drew]; omega) | (simp; omega) | (simp; done)))⟩
end Go.Proofs.Yteafpfmndjeanaa
