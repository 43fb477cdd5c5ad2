/- The walk of FnDenotes. -/
import Derived.Test.YtjimpmdelnnflaaLivW
import Derived.Test.YtjimpmdelnnflaaLivB
import Derived.Test.YtjimpmdelnnflaaLayY1
namespace Go.Proofs.Ytjimpmdelnnflaa
open Go.ChangeShapes Go.WideShapes Go.ChangeAt Go.RowKit
set_option linter.unusedVariables false
set_option linter.unusedSimpArgs false

theorem den_kind {xs ys : List T3} (hl : layOk xs ys = true) (a : Int) : (den xs ys a).1 = 0 ∨ (den xs ys a).1 = 1 ∨ (den xs ys a).1 = 2 ∨ (den xs ys a).1 = 3 := by
  rcases den_cases hl a with ⟨x, hx, h1, i, h2⟩ | ⟨y, hy, h1, i, h2⟩ | ⟨h0, -, -⟩
  · rw [h2, ownS]
    by_cases h : hasS x.2.2 (atS x a) = true <;> simp [h]
  · rw [h2, ownL]
    simp
  · rw [h0]
    simp
theorem fin_law {xs ys : List T3} (hl : layOk xs ys = true) {a : Int} (ha : 0 ≤ a ∧ a < 512) : (a ∈ liveS xs ys ∧ frC (den xs ys a) = 0 ∧ (den xs ys a).1 ≠ 0) ∨ (a ∉ liveS xs ys ∧ frC (den xs ys a) = 3 ∧ (den xs ys a).1 = 0) ∨ (a ∉ liveS xs ys ∧ (frC (den xs ys a) = 1 ∨ frC (den xs ys a) = 2) ∧ (den xs ys a).1 ≠ 0) := by
  have hk := den_kind hl a
  have hm : a ∈ liveS xs ys ↔ cnd (den xs ys a) = true := by
    rw [live_same, specL, if_pos hl, mem_spD]
    simp [ha]
  rw [hm]
  generalize den xs ys a = t at *
  obtain ⟨t0, t1, t2, t3⟩ := t
  simp only at hk
  by_cases h3 : t3 = 0
  · subst h3
    rcases hk with rfl | rfl | rfl | rfl <;> simp [cnd, frC]
  · rcases hk with rfl | rfl | rfl | rfl <;> simp [cnd, frC, h3]
theorem live_facts {xs ys : List T3} (hl : layOk xs ys = true) : (liveS xs ys).length ≤ 512 ∧ (liveS xs ys).Pairwise (· < ·) := by
  rw [live_same, specL, if_pos hl]
  exact ⟨spD_len xs ys 512, spD_pair xs ys 512⟩
theorem take_mem {zs : List Int} {k : Nat} (h : k < zs.length) (a : Int) : decide (a ∈ zs.take (k + 1)) = (decide (a ∈ zs.take k) || (zs[k] == a)) := by
  rw [List.take_succ_eq_append_getElem h]
  simp only [List.mem_append, List.mem_singleton, Bool.decide_or]
  congr 1
  rw [Bool.eq_iff_iff, decide_eq_true_eq, beq_iff_eq]
  exact eq_comm
set_option maxRecDepth 100000 in
set_option maxHeartbeats 8000000 in
theorem law_denotes (A : Option Addr) (c : Nat) (bs : List Int) (w : World) (hr : Rd w w.heap.size A (bv bs)) (hbb : ∀ b ∈ bs, 0 ≤ b ∧ b ≤ 255) :
    Calls Try.prog 3 #[.slice A bs.length c] w fun e w' => e = .returned (.bool true) ∧ Below w.heap.size w w' := by
  by_cases hbig : (1048576 : Int) < bs.length
  · go_enter Try.func3, Try.ntmps3
    go_wp2_with (go_at_call 11; refine (big_any _ _ _ _).mono ?_; rintro e w ⟨rfl, rfl⟩)
    go_ret
    exact ⟨rfl, by (repeat' (first | (with_reducible exact Below.refl _ _) | (with_reducible refine bel_alloc ?_ ?_ _) | (with_reducible refine Below.setCell ?_ ?_ _) | (with_reducible refine below_drewN ?_ _) | (with_reducible refine Below.drew ?_) | (with_reducible exact Nat.le_refl _) | (with_reducible assumption) | omega | (simp only [World.size_alloc, World.size_setCell, World.size_drew]; omega) | (simp; omega) | (simp; done)))⟩
  · have hb : Bytes bs := ⟨by omega, hbb⟩
    go_enter Try.func3, Try.ntmps3
    go_wp2_with (go_at_call 11; refine (big_any _ _ _ _).mono ?_; rintro e w ⟨rfl, rfl⟩)
    refine (drawLayout_any A c bs _ hb hr).mono ?_
    rintro e w1 ⟨A3, c3, A4, c4, xs, ys, rfl, hinv, hxl, hyl, hR, hS, hb1⟩
    go_wp2_with fail
    refine (places_any _ A c bs _ hb (hr.below hb1) hb1.size).mono ?_
    rintro e w2 ⟨A2, c2, ps, rfl, hp, ho, hb2⟩
    obtain ⟨g, rfl, hg1, hg2, P, hP, hcell⟩ := places_at ho hp
    have q0 := hcell 0 (by omega)
    have hp0 := hP 0 (by omega)
    replace hR := hR.below hb2
    replace hS := hS.below hb2
    obtain ⟨a, ha⟩ : ∃ a, a = P 0 % 160 := ⟨_, rfl⟩
    have ha0 : 0 ≤ a ∧ a < 160 := by omega
    have HA := Lib.hid ha
    generalize P 0 = p0 at *
    clear hcell hP ho ha hr
    have hok := hinv.ok
    clear hinv
    have hfin := fin_law hok (a := a) (by omega)
    have hlf := live_facts hok
    have HLV := Lib.hid (liveAddrs_i_yes (B := w2.heap.size) (B' := w2.heap.size) A3 A4 c3 c4 xs ys w2 hR.lt hS.lt (by omega) (by omega) hok)
    have HLAY := Lib.hid (fun (W : World) (h1 : Rd W W.heap.size A3 (tv xs)) (h2 : Rd W W.heap.size A4 (tv ys)) => layoutOk_i A3 A4 c3 c4 xs ys W h1 h2 (by omega) (by omega) true hok)
    have HFC := Lib.hid (fun (W : World) (h1 : Rd W W.heap.size A3 (tv xs)) (h2 : Rd W W.heap.size A4 (tv ys)) => freeCode_i A3 A4 c3 c4 xs ys a W h1 h2 (by omega) (by omega))
    obtain ⟨t0, t1, t2, t3, ht⟩ : ∃ t0 t1 t2 t3, den xs ys a = (t0, t1, t2, t3) := ⟨_, _, _, _, rfl⟩
    have HD1 := Lib.hid (fun W h1 h2 => den_v (B := W.heap.size) (B' := W.heap.size) A3 A4 c3 c4 xs.length ys.length xs ys a W h1 h2 rfl rfl (by omega) (by omega) ht)
    have HD2 := Lib.hid (fun W h1 h2 => den_sv (B := W.heap.size) (B' := W.heap.size) A3 A4 c3 c4 xs.length ys.length xs ys a W h1 h2 rfl rfl (by omega) (by omega) (by omega) ht)
    rw [show (den xs ys a).1 = t0 by rw [ht]] at hfin
    clear ht hok
    generalize frC (den xs ys a) = fc at *
    generalize liveS xs ys = zs at *
    obtain ⟨hzl, hzp⟩ := hlf
    have HZP := Lib.hid (List.pairwise_iff_getElem.1 hzp)
    have HFIN := Lib.hid hfin
    clear hzp hfin
    have HXL := Lib.hid hxl
    have HYL := Lib.hid hyl
    generalize xs.length = nx at *
    generalize ys.length = ny at *
    go_wp2_with fail
    rw [← HA.out]
    refine (HLV.out).mono ?_
    rintro e w3 ⟨A5, c5, S5, rfl, hW5, hN5, hb3⟩
    have hZ := hW5.rd
    replace hR := hR.below hb3
    replace hS := hS.below hb3
    clear hW5 hN5
    obtain ⟨n, hn⟩ : ∃ n, n = zs.length := ⟨_, rfl⟩
    have HN := Lib.hid hn
    rw [← hn] at hzl ⊢
    clear hn
    have H0 := Lib.hid (show decide (a ∈ zs.take 0) = false by simp)
    have HT := Lib.hid (fun (k : Nat) (h : k < zs.length) => take_mem h a)
    have HE := Lib.hid (show decide (a ∈ zs.take zs.length) = decide (a ∈ zs) by simp)
    generalize hbk : (fun k : Nat => decide (a ∈ zs.take k)) = bk at *
    have H0' := Lib.hid (show bk 0 = false by rw [← hbk]; exact H0.out)
    have HT' := Lib.hid (show ∀ (k : Nat) (h : k < zs.length), bk (k + 1) = (bk k || (zs[k] == a)) by rw [← hbk]; exact HT.out)
    have HE' := Lib.hid (show bk zs.length = decide (a ∈ zs) by rw [← hbk]; exact HE.out)
    clear hbk
    go_wp2
    go_loopw [8, 9] (fun u v wr => ∃ k : Nat, k ≤ n ∧ v = .int .i64 k ∧ u = .bool (bk k) ∧ Below w3.heap.size w3 wr) (fun _ v _ => n - (intOf v).toNat)
    case atStart => exact ⟨0, by omega, rfl, by rw [H0'.out], Below.refl _ _⟩
    case round =>
      obtain ⟨k, hk, rfl, rfl, hbr⟩ := hrel
      by_cases hlt : k < n
      · have hlt' : k < zs.length := by rw [← HN.out]; exact hlt
        obtain ⟨b, off, rfl, -, hc0⟩ := (hZ.below hbr).int hlt'
        have HB := Lib.hid (HT'.out k hlt')
        have HZ1 := Lib.hid (fun (j : Nat) (hj : j + 1 = k) => (show ∃ z : Int, wr.cell? ⟨b, off + j, none⟩ = some (.int .i64 z) ∧ z < zs[k] by
          have hj2 : j < zs.length := by omega
          obtain ⟨b2, off2, h2, -, h3⟩ := (hZ.below hbr).int hj2
          injection h2 with h2
          injection h2 with h2 h4
          subst h2 h4
          exact ⟨zs[j], h3, HZP.out j k hj2 hlt' (by omega)⟩))
        obtain ⟨z, hz⟩ : ∃ z, z = zs[k] := ⟨_, rfl⟩
        rw [← hz] at hc0 HB HZ1
        clear hz hlt'
        have i0 : (0 : Int) ≤ (k : Int) := by omega
        have i1 : (k : Int) < (n : Int) := by omega
        rcases Nat.eq_zero_or_pos k with rfl | hkp
        · cases hbb0 : bk 0 with
          | true =>
            have := H0'.out
            rw [hbb0] at this
            cases this
          | false =>
            have HB2 := Lib.hid (show bk (0 + 1) = (z == a) by rw [HB.out, hbb0]; rfl)
            clear hbb0
            simp only [Nat.add_zero] at hc0
            go_wp2
            go_quiet (fail)
            go_wp2
            go_roundw
            case rel => exact ⟨0 + 1, by omega, by go_num, by rw [HB2.out], by (repeat' (first | (with_reducible exact Below.refl _ _) | (with_reducible refine bel_alloc ?_ ?_ _) | (with_reducible refine Below.setCell ?_ ?_ _) | (with_reducible refine below_drewN ?_ _) | (with_reducible refine Below.drew ?_) | (with_reducible refine bel_step hbr ?_ ?_) | (with_reducible exact Nat.le_refl _) | (with_reducible assumption) | omega | (simp only [World.size_alloc, World.size_setCell, World.size_drew]; omega) | (simp; omega) | (simp; done)))⟩
            case measure => simp [intOf]; omega
        · obtain ⟨j, rfl⟩ : ∃ j, k = j + 1 := ⟨k - 1, by omega⟩
          obtain ⟨y, hy0, hyz⟩ := HZ1.out j rfl
          have g1 : ((j : Int) + 1 - 1) = (j : Int) := by omega
          have g2 : (0 : Int) ≤ (j : Int) := by omega
          have g3 : (j : Int) < (n : Int) := by omega
          have g4 : decide (z ≤ y) = false := by simp; omega
          have g5 : decide (0 < (j : Int) + 1) = true := by simp <;> omega
          cases hbb0 : bk (j + 1) with
          | true =>
            have HB2 := Lib.hid (show bk (j + 1 + 1) = true by rw [HB.out, hbb0]; rfl)
            clear hbb0
            go_wp2
            go_quiet (fail)
            go_wp2
            go_roundw
            case rel => exact ⟨j + 1 + 1, by omega, by go_num, by rw [HB2.out], by (repeat' (first | (with_reducible exact Below.refl _ _) | (with_reducible refine bel_alloc ?_ ?_ _) | (with_reducible refine Below.setCell ?_ ?_ _) | (with_reducible refine below_drewN ?_ _) | (with_reducible refine Below.drew ?_) | (with_reducible refine bel_step hbr ?_ ?_) | (with_reducible exact Nat.le_refl _) | (with_reducible assumption) | omega | (simp only [World.size_alloc, World.size_setCell, World.size_drew]; omega) | (simp; omega) | (simp; done)))⟩
            case measure => simp [intOf]; omega
          | false =>
            have HB2 := Lib.hid (show bk (j + 1 + 1) = (z == a) by rw [HB.out, hbb0]; rfl)
            clear hbb0
            go_wp2
            go_quiet (fail)
            go_wp2
            go_roundw
            case rel => exact ⟨j + 1 + 1, by omega, by go_num, by rw [HB2.out], by (repeat' (first | (with_reducible exact Below.refl _ _) | (with_reducible refine bel_alloc ?_ ?_ _) | (with_reducible refine Below.setCell ?_ ?_ _) | (with_reducible refine below_drewN ?_ _) | (with_reducible refine Below.drew ?_) | (with_reducible refine bel_step hbr ?_ ?_) | (with_reducible exact Nat.le_refl _) | (with_reducible assumption) | omega | (simp only [World.size_alloc, World.size_setCell, World.size_drew]; omega) | (simp; omega) | (simp; done)))⟩
            case measure => simp [intOf]; omega
      · obtain rfl : k = n := by omega
        have hbe : bk k = decide (a ∈ zs) := by rw [HN.out]; exact HE'.out
        obtain ⟨lv, hlv⟩ : ∃ lv, bk k = lv := ⟨_, rfl⟩
        have HFIN2 := Lib.hid (show (lv = true ∧ fc = 0 ∧ t0 ≠ 0) ∨ (lv = false ∧ fc = 3 ∧ t0 = 0) ∨ (lv = false ∧ (fc = 1 ∨ fc = 2) ∧ t0 ≠ 0) by
          rw [← hlv, hbe]
          rcases HFIN.out with h | h | h
          · exact .inl ⟨by simp [h.1], h.2⟩
          · exact .inr (.inl ⟨by simp [h.1], h.2⟩)
          · exact .inr (.inr ⟨by simp [h.1], h.2⟩))
        rw [hlv]
        clear hbe hlv
        replace hR := hR.below hbr
        replace hS := hS.below hbr
        go_wp2_with fail
        refine (HFC.out _ hR.lt hS.lt).mono ?_
        rintro e w4 ⟨rfl, hb4⟩
        replace hR := hR.below hb4
        replace hS := hS.below hb4
        go_wp2_with fail
        refine (HD1.out _ hR.lt hS.lt).mono ?_
        rintro e w5 ⟨rfl, hb5⟩
        replace hR := hR.below hb5
        replace hS := hS.below hb5
        replace hR := hR.alloc (.cells #[.int .i64 t0, .int .i64 t1, .int .i64 t2, .int .i64 t3] 33)
        replace hS := hS.alloc (.cells #[.int .i64 t0, .int .i64 t1, .int .i64 t2, .int .i64 t3] 33)
        have o0 : (w5.alloc (.cells #[.int .i64 t0, .int .i64 t1, .int .i64 t2, .int .i64 t3] 33)).cell? ⟨w5.heap.size, 0, none⟩ = some (.int .i64 t0) := by simp [go_sem]
        have o1 : (w5.alloc (.cells #[.int .i64 t0, .int .i64 t1, .int .i64 t2, .int .i64 t3] 33)).cell? ⟨w5.heap.size, 1, none⟩ = some (.int .i64 t1) := by simp [go_sem]
        have o2 : (w5.alloc (.cells #[.int .i64 t0, .int .i64 t1, .int .i64 t2, .int .i64 t3] 33)).cell? ⟨w5.heap.size, 2, none⟩ = some (.int .i64 t2) := by simp [go_sem]
        have o3 : (w5.alloc (.cells #[.int .i64 t0, .int .i64 t1, .int .i64 t2, .int .i64 t3] 33)).cell? ⟨w5.heap.size, 3, none⟩ = some (.int .i64 t3) := by simp [go_sem]
        have hbf : Below w.heap.size w (w5.alloc (.cells #[.int .i64 t0, .int .i64 t1, .int .i64 t2, .int .i64 t3] 33)) := by (repeat' (first | (with_reducible exact Below.refl _ _) | (with_reducible refine bel_alloc ?_ ?_ _) | (with_reducible refine Below.setCell ?_ ?_ _) | (with_reducible refine below_drewN ?_ _) | (with_reducible refine Below.drew ?_) | (with_reducible refine bel_step hb1 ?_ ?_) | (with_reducible refine bel_step hb2 ?_ ?_) | (with_reducible refine bel_step hb3 ?_ ?_) | (with_reducible refine bel_step hbr ?_ ?_) | (with_reducible refine bel_step hb4 ?_ ?_) | (with_reducible refine bel_step hb5 ?_ ?_) | (with_reducible exact Nat.le_refl _) | (with_reducible assumption) | omega | (simp only [World.size_alloc, World.size_setCell, World.size_drew]; omega) | (simp; omega) | (simp; done)))
        have e0 : (t0 == t0) = true := by simp
        have e1 : (t1 == t1) = true := by simp
        have e2 : (t2 == t2) = true := by simp
        have e3 : (t3 == t3) = true := by simp
        go_wp2
        obtain ⟨wo, hwo⟩ : ∃ wo, w5.heap.size = wo := ⟨_, rfl⟩
        rw [hwo] at o0 o1 o2 o3 ⊢
        generalize World.alloc w5 _ = w6 at *
        clear hwo hb5 hb4
        have k0 := cell_regrown o0
        have k1 := cell_regrown o1
        have k2 := cell_regrown o2
        have k3 := cell_regrown o3
        have cL := fun d os => Calls.regrown_of (HLAY.out (Go.Sort.grow (redrawn w6 d) os) (hR.below (below_regrown w6 d os)).lt (hS.below (below_regrown w6 d os)).lt)
        have cD := fun d os => Calls.regrown_of (HD2.out (Go.Sort.grow (redrawn w6 d) os) (hR.below (below_regrown w6 d os)).lt (hS.below (below_regrown w6 d os)).lt)
        clear o0 o1 o2 o3
        rcases HFIN2.out with ⟨rfl, rfl, h0⟩ | ⟨rfl, rfl, rfl⟩ | ⟨rfl, h1, h0⟩
        · have g0 : (t0 == 0) = false := by simpa using h0
          clear h0
          refine wp_region_quiet_below (by kernel_rfl) (by kernel_rfl) ?_
          repeat (first | go_big_quiet_step (first | (with_reducible exact cL _ _) | (with_reducible exact cD _ _)) | quiet_step (first | (with_reducible exact cL _ _) | (with_reducible exact cD _ _)))
          refine wpQuiet_nil ?_
          intro _ hw_q
          obtain ⟨⟨dq, osq⟩, hw_q'⟩ := hw_q
          subst hw_q'
          have hbq := below_regrown w6 dq osq
          generalize Go.Sort.grow (redrawn w6 dq) osq = wq at *
          go_wp2
          go_ret
          exact ⟨rfl, by (repeat' (first | (with_reducible exact Below.refl _ _) | (with_reducible refine bel_alloc ?_ ?_ _) | (with_reducible refine Below.setCell ?_ ?_ _) | (with_reducible refine below_drewN ?_ _) | (with_reducible refine Below.drew ?_) | (with_reducible refine bel_step hbf ?_ ?_) | (with_reducible refine bel_step hbq ?_ ?_) | (with_reducible exact Nat.le_refl _) | (with_reducible assumption) | omega | (simp only [World.size_alloc, World.size_setCell, World.size_drew]; omega) | (simp; omega) | (simp; done)))⟩
        · skip
          refine wp_region_quiet_below (by kernel_rfl) (by kernel_rfl) ?_
          repeat (first | go_big_quiet_step (first | (with_reducible exact cL _ _) | (with_reducible exact cD _ _)) | quiet_step (first | (with_reducible exact cL _ _) | (with_reducible exact cD _ _)))
          refine wpQuiet_nil ?_
          intro _ hw_q
          obtain ⟨⟨dq, osq⟩, hw_q'⟩ := hw_q
          subst hw_q'
          have hbq := below_regrown w6 dq osq
          generalize Go.Sort.grow (redrawn w6 dq) osq = wq at *
          go_wp2
          go_ret
          exact ⟨rfl, by (repeat' (first | (with_reducible exact Below.refl _ _) | (with_reducible refine bel_alloc ?_ ?_ _) | (with_reducible refine Below.setCell ?_ ?_ _) | (with_reducible refine below_drewN ?_ _) | (with_reducible refine Below.drew ?_) | (with_reducible refine bel_step hbf ?_ ?_) | (with_reducible refine bel_step hbq ?_ ?_) | (with_reducible exact Nat.le_refl _) | (with_reducible assumption) | omega | (simp only [World.size_alloc, World.size_setCell, World.size_drew]; omega) | (simp; omega) | (simp; done)))⟩
        · have g0 : (t0 == 0) = false := by simpa using h0
          clear h0
          rcases h1 with rfl | rfl
          all_goals
            refine wp_region_quiet_below (by kernel_rfl) (by kernel_rfl) ?_
            repeat (first | go_big_quiet_step (first | (with_reducible exact cL _ _) | (with_reducible exact cD _ _)) | quiet_step (first | (with_reducible exact cL _ _) | (with_reducible exact cD _ _)))
            refine wpQuiet_nil ?_
            intro _ hw_q
            obtain ⟨⟨dq, osq⟩, hw_q'⟩ := hw_q
            subst hw_q'
            have hbq := below_regrown w6 dq osq
            generalize Go.Sort.grow (redrawn w6 dq) osq = wq at *
            go_wp2
            go_ret
            exact ⟨rfl, by (repeat' (first | (with_reducible exact Below.refl _ _) | (with_reducible refine bel_alloc ?_ ?_ _) | (with_reducible refine Below.setCell ?_ ?_ _) | (with_reducible refine below_drewN ?_ _) | (with_reducible refine Below.drew ?_) | (with_reducible refine bel_step hbf ?_ ?_) | (with_reducible refine bel_step hbq ?_ ?_) | (with_reducible exact Nat.le_refl _) | (with_reducible assumption) | omega | (simp only [World.size_alloc, World.size_setCell, World.size_drew]; omega) | (simp; omega) | (simp; done)))⟩
end Go.Proofs.Ytjimpmdelnnflaa
