/- The walk of FnQuarantine. -/
import Derived.Test.YteafpfmndjeanaaQuarY1
namespace Go.Proofs.Yteafpfmndjeanaa
open Go.ChangeShapes Go.WideShapes Go.ChangeAt Go.RowKit
set_option linter.unusedVariables false
set_option linter.unusedSimpArgs false
attribute [local go_sem ↓] Go.wp_at_zero Go.wp_at_succ

set_option maxRecDepth 100000 in
set_option maxHeartbeats 8000000 in
theorem law_quarantine (A : Option Addr) (c : Nat) (bs : List Int) (w : World) (hr : Rd w w.heap.size A (bv bs)) (hbb : ∀ b ∈ bs, 0 ≤ b ∧ b ≤ 255) :
    Calls Try.prog 7 #[.slice A bs.length c] w fun e w' => e = .returned (.bool true) ∧ Below w.heap.size w w' := by
  by_cases hbig : (1048576 : Int) < bs.length
  · go_enter Try.func7, Try.ntmps7
    go_wp2_with (go_at_call 21; refine (big_any _ _ _ _).mono ?_; rintro e w ⟨rfl, rfl⟩)
    go_ret
    exact ⟨rfl, by (repeat' (first | (with_reducible exact Below.refl _ _) | (with_reducible refine bel_alloc ?_ ?_ _) | (with_reducible refine Below.setCell ?_ ?_ _) | (with_reducible refine below_drewN ?_ _) | (with_reducible refine Below.drew ?_) | (with_reducible exact Nat.le_refl _) | (with_reducible assumption) | omega | (simp only [World.size_alloc, World.size_setCell, World.size_drew]; omega) | (simp; omega) | (simp; done)))⟩
  · have hb : Bytes bs := ⟨by omega, hbb⟩
    go_enter Try.func7, Try.ntmps7
    go_wp2_with (go_at_call 21; refine (big_any _ _ _ _).mono ?_; rintro e w ⟨rfl, rfl⟩)
    refine (drawQuar_any A c bs _ hb hr).mono ?_
    rintro e w1 ⟨r, A1, c1, xs, rfl, hok, hsm, hR, hcap, hb1⟩
    have hz1 := hb1.size
    go_wp2_with fail
    refine (places_any _ A c bs _ hb ((hr.below hb1).alloc _) (by simp; omega)).mono ?_
    rintro e w2 ⟨A2, c2, ps, rfl, hp, ho, hb2⟩
    have q0 : w2.cell? ⟨w1.heap.size, 0, none⟩ = some (.int .i64 r) := keep hb2 (by simp [go_sem])
    have q1 : w2.cell? ⟨w1.heap.size, 1, none⟩ = some (.slice A1 xs.length c1) := keep hb2 (by simp [go_sem])
    obtain ⟨g, rfl, hg1, hg2, P, hP, hcell⟩ := places_at ho hp
    have p0 := hcell 0 (by omega)
    have p1 := hcell 1 (by omega)
    have hp0 := hP 0 (by omega)
    have hp1 := hP 1 (by omega)
    replace hR := (hR.alloc (.cells #[.int .i64 r, .slice A1 xs.length c1] 24)).below hb2
    have hl500 := qOk_len hok
    obtain ⟨xa, hxa⟩ : ∃ n, n = 100 + P 0 := ⟨_, rfl⟩
    obtain ⟨xc, hxc⟩ : ∃ n, n = P 1 % 4 := ⟨_, rfl⟩
    have ha0 : 100 ≤ xa ∧ xa < 11000 := by omega
    have hc0 : 0 ≤ xc ∧ xc < 4 := by omega
    have HXA := Lib.hid hxa
    have HXC := Lib.hid hxc
    have hst : stOk xs (xa, xc, 500) = true := by
      rw [stOk_iff (qOk_iff.1 hok).1.2]
      refine ⟨?_, fun a ha => ⟨?_, ?_⟩⟩
      · simp only [stOne, Bool.and_eq_true, decide_eq_true_eq]
        exact ⟨⟨btw_t (by omega) (by omega), by omega⟩, by omega⟩
      · have := (hsm a ha).1
        simp only
        omega
      · have := (hsm a ha).2
        simp only
        omega
    have HK := Lib.hid hok
    generalize P 0 = v0 at *
    generalize P 1 = v1 at *
    clear hcell hP ho hxa hxc hsm hr
    have hal := addN_le (r := r) (xs ++ [(xa, xc, 500)])
    obtain ⟨ys, hys⟩ : ∃ ys, ys = (xs ++ [(xa, xc, 500)]).drop (addN r (xs ++ [(xa, xc, 500)])) := ⟨_, rfl⟩
    obtain ⟨zs, hzs⟩ : ∃ zs, zs = (xs ++ [(xa, xc, 500)]).take (addN r (xs ++ [(xa, xc, 500)])) := ⟨_, rfl⟩
    have HAD := Lib.hid (fun W h => quarAdd_i_yes (B := W.heap.size) r A1 xs.length c1 xs xa xc 500 W h rfl (by omega) hcap hok hst (qOk_room hok) ys zs hys hzs)
    have HOY := Lib.hid (show qOkB r ys = true by rw [hys]; exact qOk_add hok hst)
    have HXX := Lib.hid (show zs ++ ys = xs ++ [(xa, xc, 500)] by rw [hys, hzs, List.take_append_drop])
    have HLL := Lib.hid (show zs.length + ys.length = xs.length + 1 by have := congrArg List.length HXX.out; simpa using this)
    have HHAS := Lib.hid (show hasA ys xa = decide (0 < ys.length) by
      by_cases h0 : 0 < ys.length
      · rw [decide_eq_true h0]
        refine hasA_iff.2 ⟨(xa, xc, 500), ?_, rfl⟩
        rw [hys]
        exact last_in (by rw [hys] at h0; simp at h0 ⊢; omega)
      · have : ys = [] := List.eq_nil_of_length_eq_zero (by omega)
        rw [this]
        rfl)
    have hyl : ys.length ≤ 501 := by have := HLL.out; omega
    have hzl : zs.length ≤ 501 := by have := HLL.out; omega
    clear hal hys hzs hst hok
    have lq0 := lt_of_cell' q0
    have lg := lt_of_cell' p0
    go_wp2_with fail
    go_region_held3 (fun w' => w'.cell? ⟨g, 0, none⟩ = some (.int .i64 v0) ∧ w'.cell? ⟨g, 1, none⟩ = some (.int .i64 v1)) (first | exact ⟨p0, p1⟩ | exact ⟨cell_al p0 _, cell_al p1 _⟩ | exact ⟨cell_ald p0 _, cell_ald p1 _⟩ | go_keep) (fail)
    go_wp2_with fail
    rw [← HXA.out, ← HXC.out]
    refine (HAD.out _ ((hR.ald _).lt)).mono ?_
    rintro e w3 ⟨A3, c3, A4, c4, S3, S4, rfl, hW3, hW4, hN3, hN4, -, hb3, hcap3⟩
    have x0 : w3.cell? ⟨w2.heap.size, 0, none⟩ = some (.int .i64 xa) := keep hb3 (by simp [go_sem])
    have x1 : w3.cell? ⟨w2.heap.size, 1, none⟩ = some (.int .i64 xc) := keep hb3 (by simp [go_sem])
    have x2 : w3.cell? ⟨w2.heap.size, 2, none⟩ = some (.int .i64 500) := keep hb3 (by simp [go_sem])
    replace q0 := keep hb3 (cell_ald q0 _)
    replace q1 := keep hb3 (cell_ald q1 _)
    replace hR := (hR.ald _).below hb3
    have hRy := hW3.rd
    have hRz := hW4.rd
    have hbw3 : Below w.heap.size w w3 := by (repeat' (first | (with_reducible exact Below.refl _ _) | (with_reducible refine bel_alloc ?_ ?_ _) | (with_reducible refine Below.setCell ?_ ?_ _) | (with_reducible refine below_drewN ?_ _) | (with_reducible refine Below.drew ?_) | (with_reducible refine bel_step hb1 ?_ ?_) | (with_reducible refine bel_step hb2 ?_ ?_) | (with_reducible refine bel_step hb3 ?_ ?_) | (with_reducible exact Nat.le_refl _) | (with_reducible assumption) | omega | (simp only [World.size_alloc, World.size_setCell, World.size_drew]; omega) | (simp; omega) | (simp; done)))
    have hzw3 := hbw3.size
    have lx0 := lt_of_cell' x0
    replace lq0 := lt_of_cell' q0
    have y0 : (w3.alloc (.cells #[.int .i64 r, .slice A3 ys.length c3] 24)).cell? ⟨w3.heap.size, 0, none⟩ = some (.int .i64 r) := by simp [go_sem]
    have y1 : (w3.alloc (.cells #[.int .i64 r, .slice A3 ys.length c3] 24)).cell? ⟨w3.heap.size, 1, none⟩ = some (.slice A3 ys.length c3) := by simp [go_sem]
    replace x0 := cell_al x0 (.cells #[.int .i64 r, .slice A3 ys.length c3] 24)
    replace x1 := cell_al x1 (.cells #[.int .i64 r, .slice A3 ys.length c3] 24)
    replace x2 := cell_al x2 (.cells #[.int .i64 r, .slice A3 ys.length c3] 24)
    replace q1 := cell_al q1 (.cells #[.int .i64 r, .slice A3 ys.length c3] 24)
    replace hR := (hR.alloc (.cells #[.int .i64 r, .slice A3 ys.length c3] 24)).lt
    replace hRy := (hRy.alloc (.cells #[.int .i64 r, .slice A3 ys.length c3] 24)).lt
    replace hRz := (hRz.alloc (.cells #[.int .i64 r, .slice A3 ys.length c3] 24)).lt
    replace hbw3 : Below w.heap.size w (w3.alloc (.cells #[.int .i64 r, .slice A3 ys.length c3] 24)) := by (repeat' (first | (with_reducible exact Below.refl _ _) | (with_reducible refine bel_alloc ?_ ?_ _) | (with_reducible refine Below.setCell ?_ ?_ _) | (with_reducible refine below_drewN ?_ _) | (with_reducible refine Below.drew ?_) | (with_reducible refine bel_step hbw3 ?_ ?_) | (with_reducible exact Nat.le_refl _) | (with_reducible assumption) | omega | (simp only [World.size_alloc, World.size_setCell, World.size_drew]; omega) | (simp; omega) | (simp; done)))
    clear hW3 hW4 hN3 hN4 hb1 hb2 hb3 q0 p0 p1 HK HAD
    go_wp2_with fail
    generalize w3.alloc (.cells #[.int .i64 r, .slice A3 ys.length c3] 24) = W at *
    have hzW := hbw3.size
    have ly0 := lt_of_cell' y0
    replace lx0 := lt_of_cell' x0
    have lq1 := lt_of_cell' q1
    obtain ⟨it, hit, iz0, iz1, iz2⟩ := info_parts infoStale
    have HLZ := Lib.hid (show (tv zs).length = zs.length * 3 from tv_length zs)
    have HLY := Lib.hid (show (tv ys).length = ys.length * 3 from tv_length ys)
    have HTV := Lib.hid (show tv zs ++ tv ys = tv (xs ++ [(xa, xc, 500)]) by rw [← tv_app, HXX.out])
    go_region_held3 (fun w' => w'.cell? ⟨w3.heap.size, 1, none⟩ = some (.slice A3 ys.length c3))
      (first | exact y1 | exact cell_al y1 _ | exact cell_ald y1 _ | exact y15 | exact y16x | go_keep)
      (first | (refine step_append_new (by rfl) (.tmp 31) (.tmp 32) _ (by rfl) 47 it (.agg #[.int .i64 0, .int .i64 0, .int .i64 0]) 3 24 Try.underlying22 hit iz0 iz1 iz2 (by rfl) (by omega) W.heap.size ?q1 ?q2 A4 zs.length c4 (tv zs) ?q3 HLZ.out (B := W.heap.size) ?q4 (tv_one _) ?q5 ?q6 ?q7 ?q8; (case q1 => rfl); (case q2 => exact own_lit (w := W) rfl); (case q3 => rfl); (case q4 => exact hRz.alloc _); (case q5 => unfold maxLen; omega); (case q6 => omega); (case q7 => simp); intro A5 c5 w5 ho5 hS5 hA5; replace ho5 := ho5.1; have y15 := hS5.cell (cell_ald y1 _) (fun h => by simp only at h; omega); have hr5 := Rd.outS (hRy.ald _) hS5 (fun b hb => by rw [hb]; exact Nat.le_refl _); have hz5 := hS5.size; simp only [World.size_alloc, World.size_drew] at hz5) | (refine step_append_ow (by rfl) (.tmp 33) (.tmp 35) _ (by rfl) 47 it (.agg #[.int .i64 0, .int .i64 0, .int .i64 0]) 3 24 Try.underlying22 hit iz0 iz1 iz2 (by rfl) (by omega) W.heap.size A5 zs.length c5 (tv zs) ?s1 ?s2 A3 ys.length c3 (tv ys) ?s3 HLY.out (B := W.heap.size) ?s4 (tv_one _) ?s5 ?s6 ?s7 ?s8; (case s1 => rfl); (case s2 => exact ho5); (case s3 => rfl); (case s4 => exact hr5); (case s5 => unfold maxLen; omega); (case s6 => omega); (case s7 => omega); intro A6 c6 w6 ho6 hS6 hA6; have hl6x := own_low ho5; have y16x := hS6.cell y15 (fun h => by have := hl6x _ h; simp only at this; omega)) | fail)
    have hl6 := own_low ho5
    have o6 : ∀ {p : Addr} {v : Value}, W.cell? p = some v → w6.cell? p = some v := fun {p v} h => hS6.cell (hS5.cell (cell_ald h _) (fun e => by have := lt_of_cell h; omega)) (fun e => by have := hl6 _ e; have := lt_of_cell h; omega)
    have y06 := o6 y0
    have y16 := o6 y1
    have q16 := o6 q1
    have x06 := o6 x0
    have x16 := o6 x1
    have x26 := o6 x2
    have hRy6 := hr5.outS hS6 hl6
    have hR5 := (Rd.outS (hR.ald _) hS5 (fun b hb => by rw [hb]; exact Nat.le_refl _)).outS hS6 hl6
    have hf5 : Below w.heap.size w w5 := bel_outS hS5 (fun b hb => by rw [hb]; exact hzW) (by (repeat' (first | (with_reducible exact Below.refl _ _) | (with_reducible refine bel_alloc ?_ ?_ _) | (with_reducible refine Below.setCell ?_ ?_ _) | (with_reducible refine below_drewN ?_ _) | (with_reducible refine Below.drew ?_) | (with_reducible refine bel_step hbw3 ?_ ?_) | (with_reducible exact Nat.le_refl _) | (with_reducible assumption) | omega | (simp only [World.size_alloc, World.size_setCell, World.size_drew]; omega) | (simp; omega) | (simp; done)))) (Nat.le_refl _)
    have hf6 : Below w.heap.size w w6 := bel_outS hS6 (fun b h => Nat.le_trans hzW (own_low ho5 b h)) hf5 (Nat.le_refl _)
    have hcap6 := (Ow.mk' ho6).cap
    unfold maxLen at hcap6
    have hR6 := Rd.own ho6
    rw [HTV.out] at hR6
    have hxl : xs.length < (xs ++ [(xa, xc, (500 : Int))]).length := by simp
    obtain ⟨b, off, hA6e, -, e0, e1, e2⟩ := hR6.trip hxl
    have hlast : (xs ++ [(xa, xc, (500 : Int))])[xs.length] = (xa, xc, 500) := by simp
    rw [hlast] at e0 e1 e2
    have hR6p : Rd w6 w6.heap.size A6 (tv xs) := by rw [tv_app] at hR6; exact hR6.pre
    subst hA6e
    rw [HLL.out]
    rw [HLL.out] at hcap6
    simp only at e0 e1 e2
    clear o6 hS5 hS6 hA5 hA6 ho5 ho6 hr5 y15 hl6 hR6 hlast hxl y0 y1 q1 x0 x1 x2 hR hRy hRz HLZ HLY HTV hbw3 hf5
    have HNX := Lib.hid (show xs.length = xs.length from rfl)
    generalize hny : ys.length = ny at *
    generalize hnz : zs.length = nz at *
    generalize hnx : xs.length = nx at *
    have HNY := Lib.hid hny
    have HNZ := Lib.hid hnz
    have HNN := Lib.hid hnx
    clear hny hnz hnx
    have k0 := cell_regrown y06
    have k1 := cell_regrown y16
    have k2 := cell_regrown q16
    have k3 := cell_regrown x06
    have k4 := cell_regrown x16
    have k5 := cell_regrown x26
    have k6 := cell_regrown e0
    have k7 := cell_regrown e1
    have k8 := cell_regrown e2
    have cQ := fun d os => Calls.regrown_of (quarOk_i r A3 ny c3 ys (Go.Sort.grow (redrawn w6 d) os) true (hRy6.lt.below (below_regrown w6 d os)) HNY.out (by omega) hcap3 HOY.out)
    have cS := fun d os => Calls.regrown_of (sameStale_same (some ⟨b, off, none⟩) A1 nx nx c6 c1 xs (Go.Sort.grow (redrawn w6 d) os) (hR6p.below (below_regrown w6 d os)) (hR5.lt.below (below_regrown w6 d os)) HNN.out HNN.out (by omega))
    have g1 : (((nx : Int) + 1) == ((nx : Int) + 1)) = true := by simp
    have g2 : (0 : Int) ≤ (nx : Int) := by omega
    have g3 : (nx : Int) < (nx : Int) + 1 := by omega
    have g4 : (nx : Int) ≤ (c6 : Int) := by omega
    have g5 : (nx : Int) + 1 - 1 = (nx : Int) := by omega
    rcases Nat.eq_zero_or_pos nz with rfl | hz0
    · have gz : ((((0 : Nat) : Int)) == 0) = true := by simp
      go_wp2
      refine wp_region_quiet_below (by kernel_rfl) (by kernel_rfl) ?_
      repeat (first | go_big_quiet_step (first | (with_reducible exact cQ _ _) | (with_reducible exact cS _ _)) | quiet_step (first | (with_reducible exact cQ _ _) | (with_reducible exact cS _ _)))
      refine wpQuiet_nil ?_
      intro _ hw_q
      obtain ⟨⟨dq, osq⟩, hw_q'⟩ := hw_q
      subst hw_q'
      have hbq := below_regrown w6 dq osq
      generalize Go.Sort.grow (redrawn w6 dq) osq = wq at *
      go_wp2
      go_ret
      exact ⟨rfl, by (repeat' (first | (with_reducible exact Below.refl _ _) | (with_reducible refine bel_alloc ?_ ?_ _) | (with_reducible refine Below.setCell ?_ ?_ _) | (with_reducible refine below_drewN ?_ _) | (with_reducible refine Below.drew ?_) | (with_reducible refine bel_step hf6 ?_ ?_) | (with_reducible refine bel_step hbq ?_ ?_) | (with_reducible exact Nat.le_refl _) | (with_reducible assumption) | omega | (simp only [World.size_alloc, World.size_setCell, World.size_drew]; omega) | (simp; omega) | (simp; done)))⟩
    · have gz : ((nz : Int) == 0) = false := by simp; omega
      rcases Nat.eq_zero_or_pos ny with rfl | hy0
      · have cH := fun d os => Calls.regrown_of (quarHas_v r A3 0 c3 ys xa (Go.Sort.grow (redrawn w6 d) os) (hRy6.lt.below (below_regrown w6 d os)) HNY.out (by omega) (v := false) (by rw [HHAS.out]; simp))
        go_wp2
        refine wp_region_quiet_below (by kernel_rfl) (by kernel_rfl) ?_
        repeat (first | go_big_quiet_step (first | (with_reducible exact cQ _ _) | (with_reducible exact cS _ _) | (with_reducible exact cH _ _)) | quiet_step (first | (with_reducible exact cQ _ _) | (with_reducible exact cS _ _) | (with_reducible exact cH _ _)))
        refine wpQuiet_nil ?_
        intro _ hw_q
        obtain ⟨⟨dq, osq⟩, hw_q'⟩ := hw_q
        subst hw_q'
        have hbq := below_regrown w6 dq osq
        generalize Go.Sort.grow (redrawn w6 dq) osq = wq at *
        go_wp2
        go_ret
        exact ⟨rfl, by (repeat' (first | (with_reducible exact Below.refl _ _) | (with_reducible refine bel_alloc ?_ ?_ _) | (with_reducible refine Below.setCell ?_ ?_ _) | (with_reducible refine below_drewN ?_ _) | (with_reducible refine Below.drew ?_) | (with_reducible refine bel_step hf6 ?_ ?_) | (with_reducible refine bel_step hbq ?_ ?_) | (with_reducible exact Nat.le_refl _) | (with_reducible assumption) | omega | (simp only [World.size_alloc, World.size_setCell, World.size_drew]; omega) | (simp; omega) | (simp; done)))⟩
      · have cH := fun d os => Calls.regrown_of (quarHas_v r A3 ny c3 ys xa (Go.Sort.grow (redrawn w6 d) os) (hRy6.lt.below (below_regrown w6 d os)) HNY.out (by omega) (v := true) (by rw [HHAS.out]; simp; omega))
        go_wp2
        refine wp_region_quiet_below (by kernel_rfl) (by kernel_rfl) ?_
        repeat (first | go_big_quiet_step (first | (with_reducible exact cQ _ _) | (with_reducible exact cS _ _) | (with_reducible exact cH _ _)) | quiet_step (first | (with_reducible exact cQ _ _) | (with_reducible exact cS _ _) | (with_reducible exact cH _ _)))
        refine wpQuiet_nil ?_
        intro _ hw_q
        obtain ⟨⟨dq, osq⟩, hw_q'⟩ := hw_q
        subst hw_q'
        have hbq := below_regrown w6 dq osq
        generalize Go.Sort.grow (redrawn w6 dq) osq = wq at *
        go_wp2
        go_ret
        exact ⟨rfl, by (repeat' (first | (with_reducible exact Below.refl _ _) | (with_reducible refine bel_alloc ?_ ?_ _) | (with_reducible refine Below.setCell ?_ ?_ _) | (with_reducible refine below_drewN ?_ _) | (with_reducible refine Below.drew ?_) | (with_reducible refine bel_step hf6 ?_ ?_) | (with_reducible refine bel_step hbq ?_ ?_) | (with_reducible exact Nat.le_refl _) | (with_reducible assumption) | omega | (simp only [World.size_alloc, World.size_setCell, World.size_drew]; omega) | (simp; omega) | (simp; done)))⟩
end Go.Proofs.Yteafpfmndjeanaa
