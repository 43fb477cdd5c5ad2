/- The walk of FnTags. -/
import Derived.Test.YtlohnaodoniajaaTagsJ
import Derived.Lib.QuietBelow
namespace Go.Proofs.Ytlohnaodoniajaa
open Go.ChangeShapes Go.WideShapes Go.ChangeAt Go.RowKit
set_option linter.unusedVariables false

set_option maxHeartbeats 8000000 in
theorem law_tags (A : Option Addr) (c : Nat) (bs : List Int) (w : World) (hr : Rd w w.heap.size A (bv bs)) (hbb : ∀ b ∈ bs, 0 ≤ b ∧ b ≤ 255) :
    Calls Try.prog 6 #[.slice A bs.length c] w fun e w' => e = .returned (.bool true) ∧ Below w.heap.size w w' := by
  by_cases hbig : (1048576 : Int) < bs.length
  · go_enter Try.func6, Try.ntmps6
    go_wp2_with (go_at_call 20; refine (big_any _ _ _ _).mono ?_; rintro e w ⟨rfl, rfl⟩)
    go_ret
    exact ⟨rfl, by (repeat' (first | (with_reducible exact Below.refl _ _) | (with_reducible refine bel_alloc ?_ ?_ _) | (with_reducible refine Below.setCell ?_ ?_ _) | (with_reducible refine below_drewN ?_ _) | (with_reducible refine Below.drew ?_) | (with_reducible exact Nat.le_refl _) | (with_reducible assumption) | omega | (simp only [World.size_alloc, World.size_setCell, World.size_drew]; omega) | (simp; omega) | (simp; done)))⟩
  · have hb : Bytes bs := ⟨by omega, hbb⟩
    go_enter Try.func6, Try.ntmps6
    go_wp2_with (go_at_call 20; refine (big_any _ _ _ _).mono ?_; rintro e w ⟨rfl, rfl⟩)
    refine (places_any _ A c bs _ hb hr (Nat.le_refl _)).mono ?_
    rintro e w1 ⟨A1, c1, xs, rfl, hp, ho, hb1⟩
    obtain ⟨g, rfl, hg1, hg2, P, hP, hcell⟩ := places_at ho hp
    have q0 := hcell 0 (by omega)
    have q1 := hcell 1 (by omega)
    have hp0 := hP 0 (by omega)
    have hp1 := hP 1 (by omega)
    obtain ⟨a, ha⟩ : ∃ a : Nat, P 0 % 20 = a := ⟨(P 0 % 20).toNat, by omega⟩
    have ha20 : a < 20 := by omega
    generalize hp0e : P 0 = p0 at *
    generalize P 1 = p1 at *
    clear hp0e hcell hP ho
    have HA := Lib.hid ha
    clear ha
    go_wp2_with fail
    refine (new_st a _).mono ?_
    rintro e w2 ⟨A2, c2, rfl, h2, hb2⟩
    have q0 := keep hb2 q0
    have q1 := keep hb2 q1
    have hgl := lt_of_cell' q0
    have hm : 0 ≤ p1 % 8 ∧ p1 % 8 < 8 := by omega
    go_wp2_with fail
    have ha := HA.out
    simp only [ha]
    clear ha HA q0
    have hg2 : g < w2.heap.size := hgl
    go_loopw [7] (fun u wr => ∃ (k : Nat) (v : Int) (A3 : Option Addr) (c3 : Nat), (k : Int) ≤ p1 % 8 ∧ u = .int .i64 k ∧ 0 ≤ v ∧ v ≤ 7 ∧ Cl wr ⟨w2.heap.size, 0, none⟩ (.slice A3 20 c3) ∧ Rd wr wr.heap.size A3 (iv (st a v)) ∧ w2.heap.size < wr.heap.size ∧ wr.cell? ⟨g, 1, none⟩ = some (.int .i64 p1) ∧ Below w.heap.size w wr)
      (fun u _ => 8 - (intOf u).toNat)
    have hw2l := hb1.size
    have hw3l := hb2.size
    case atStart => exact ⟨0, 0, A2, c2, by omega, rfl, by omega, by omega, Cl.new rfl rfl, (h2.rd.alloc _).more (by simp), by simp, cell_al q1 _, by (repeat' (first | (with_reducible exact Below.refl _ _) | (with_reducible refine bel_alloc ?_ ?_ _) | (with_reducible refine Below.setCell ?_ ?_ _) | (with_reducible refine below_drewN ?_ _) | (with_reducible refine Below.drew ?_) | (with_reducible refine bel_step hb1 ?_ ?_) | (with_reducible refine bel_step hb2 ?_ ?_) | (with_reducible exact Nat.le_refl _) | (with_reducible assumption) | omega | (simp only [World.size_alloc, World.size_setCell, World.size_drew]; omega) | (simp; omega) | (simp; done)))⟩
    case round =>
      obtain ⟨k, v, A3, c3, hk, rfl, hv0, hv1, ⟨t0, tf0⟩, h3, hlw, q1, hbr⟩ := hrel
      clear h2 hb2 hb1
      by_cases hlt : (k : Int) < p1 % 8
      · go_wp2_with fail
        refine (retag_st _ _ _ _ _ h3 ha20 hv0 hv1).mono ?_
        rintro e w4 ⟨A4, c4, rfl, h4, hb4⟩
        have T := (show Cl wr _ _ from ⟨t0, tf0⟩).below hb4
        obtain ⟨t4, tf4⟩ := T
        have q4 := keep hb4 q1
        clear t0 tf0 q1
        go_wp2
        go_roundw
        case rel =>
          exact ⟨k + 1, (v + 1) % 8, A4, c4, by omega, by go_num, by omega, by omega, Cl.same ⟨t4, tf4⟩ _, by simpa using (h4.set (b := w2.heap.size) (o := 0) (.slice A4 20 c4) (.inl (by omega))).rd, by have := hb4.size; simp; omega, by rw [World.cell?_setCell_other _ _ _ _ (by first | (simp; done) | (simp; omega))]; exact q4, (bel_step hb4 hbr (Nat.le_refl _)).setCell (by simp; omega) _⟩
        case measure => simp [intOf]; omega
      · have hvf : ∀ u : Int, 0 ≤ u → u ≤ 7 → ∀ i : Int, 1 ≤ i → i ≤ 7 → ((u + i) % 8 == u) = false := by
          intro u h1 h2 i h3 h4
          simp
          omega
        replace hvf := Lib.hid hvf
        go_wp2_with fail
        refine (ptr_st _ _ _ _ _ h3 ha20 hv0 hv1).mono ?_
        rintro e w4 ⟨rfl, hb4⟩
        have T := (show Cl wr _ _ from ⟨t0, tf0⟩).below hb4
        have h4 := h3.below hb4
        have hz4 := hb4.size
        have hbr4 := bel_step hb4 hbr (Nat.le_refl _)
        clear t0 tf0 h3 hbr
        go_wp2_with fail
        go_loopw [9] (fun u wr => ∃ (i : Nat) (A3 : Option Addr) (c3 : Nat), 1 ≤ i ∧ i ≤ 8 ∧ u = .int .i64 i ∧ Cl wr ⟨w2.heap.size, 0, none⟩ (.slice A3 20 c3) ∧ Rd wr wr.heap.size A3 (iv (st a ((v + i - 1) % 8))) ∧ w2.heap.size < wr.heap.size ∧ Below w.heap.size w wr)
          (fun u _ => 8 - (intOf u).toNat)
        case atStart => exact ⟨1, A3, c3, by omega, by omega, rfl, T, by rw [show (v + ((1 : Nat) : Int) - 1) % 8 = v by omega]; exact h4.lt, by omega, hbr4⟩
        case round =>
          obtain ⟨i, A5, c5, hi1, hi8, rfl, ⟨t0, tf0⟩, h5, hlw, hbr⟩ := hrel
          clear h4 hbr4 hb4 hz4
          by_cases hlt : i < 8
          · have hvn := hvf.out v hv0 hv1 i (by omega) (by omega)
            go_wp2_with fail
            refine (retag_st _ _ _ _ _ h5 ha20 (by omega) (by omega)).mono ?_
            rintro e w6 ⟨A6, c6, rfl, h6, hb6⟩
            rw [show ((v + (i : Int) - 1) % 8 + 1) % 8 = (v + i) % 8 by omega] at h6
            have HU := Lib.hid (show (v + ((i + 1 : Nat) : Int) - 1) % 8 = (v + i) % 8 by congr 1; omega)
            have hu : 0 ≤ (v + (i : Int)) % 8 ∧ (v + (i : Int)) % 8 ≤ 7 := by omega
            generalize (v + (i : Int)) % 8 = u at *
            have T := ((show Cl _ _ _ from ⟨t0, tf0⟩).below hb6).same (.slice A6 20 c6)
            have TT := (show Cl _ _ _ from ⟨t0, tf0⟩).below hb6
            obtain ⟨t6, tf6⟩ := TT
            have R := (h6.set (b := w2.heap.size) (o := 0) (.slice A6 20 c6) (.inl (by omega))).rd
            have hz6 := hb6.size
            have BB := (bel_step hb6 hbr (Nat.le_refl _)).setCell (p := ⟨w2.heap.size, 0, none⟩) (by simp; omega) (.slice A6 20 c6)
            have hlw6 : w2.heap.size < (w6.setCell ⟨w2.heap.size, 0, none⟩ (.slice A6 20 c6)).heap.size := by simp; omega
            clear t0 tf0 h5 hbr h6
            go_wp2
            clear t6 tf6 hb6 hz6
            generalize w6.setCell ⟨w2.heap.size, 0, none⟩ (.slice A6 20 c6) = W at *
            have k0 := cell_regrown T.1
            have cF1 : ∀ d os, Calls Try.prog 23 #[.agg #[.slice A6 20 c6], .int .i64 (a + 512 * v)] (Go.Sort.grow (redrawn W d) os) fun e w'' => e = .returned (.bool false) ∧ ∃ p : Regrown, w'' = Go.Sort.grow (redrawn W p.d) p.os := fun d os => Calls.regrown_of (by
              have h := fits_st A6 c6 a u v (Go.Sort.grow (redrawn W d) os) (R.below (below_regrown W d os)) ha20 hu.1 hu.2 hv0 hv1
              rw [hvn] at h
              exact h)
            have cP : ∀ d os, Calls Try.prog 19 #[.agg #[.slice A6 20 c6], .int .i64 a] (Go.Sort.grow (redrawn W d) os) fun e w'' => e = .returned (.int .i64 (a + 512 * u)) ∧ ∃ p : Regrown, w'' = Go.Sort.grow (redrawn W p.d) p.os := fun d os => Calls.regrown_of (ptr_st A6 c6 a u _ (R.below (below_regrown W d os)) ha20 hu.1 hu.2)
            have cF2 : ∀ d os, Calls Try.prog 23 #[.agg #[.slice A6 20 c6], .int .i64 (a + 512 * u)] (Go.Sort.grow (redrawn W d) os) fun e w'' => e = .returned (.bool true) ∧ ∃ p : Regrown, w'' = Go.Sort.grow (redrawn W p.d) p.os := fun d os => Calls.regrown_of (by
              have h := fits_st A6 c6 a u u (Go.Sort.grow (redrawn W d) os) (R.below (below_regrown W d os)) ha20 hu.1 hu.2 hu.1 hu.2
              rw [show (u == u) = true by simp] at h
              exact h)
            refine wp_region_quiet_below (by kernel_rfl) (by kernel_rfl) ?_
            repeat (quiet_step (first | (with_reducible exact cF1 _ _) | (with_reducible exact cP _ _) | (with_reducible exact cF2 _ _)))
            refine wpQuiet_nil ?_
            intro _ hw_q
            obtain ⟨⟨dq, osq⟩, hw_q'⟩ := hw_q
            subst hw_q'
            have hbq := below_regrown W dq osq
            generalize Go.Sort.grow (redrawn W dq) osq = wq at *
            go_wp2
            go_roundw
            case rel =>
              have hzq := hbq.size
              exact ⟨i + 1, A6, c6, by omega, by omega, by go_num, T.below hbq, by rw [HU.out]; exact (R.below hbq).lt, by omega, bel_step hbq BB (Nat.le_refl _)⟩
            case measure => simp [intOf]; omega
          · obtain rfl : i = 8 := by omega
            go_wp2_with fail
            refine (retag_st _ _ _ _ _ h5 ha20 (by omega) (by omega)).mono ?_
            rintro e w6 ⟨A6, c6, rfl, h6, hb6⟩
            rw [show ((v + ((8 : Nat) : Int) - 1) % 8 + 1) % 8 = v by omega] at h6
            have T := ((show Cl _ _ _ from ⟨t0, tf0⟩).below hb6).same (.slice A6 20 c6)
            have TT := (show Cl _ _ _ from ⟨t0, tf0⟩).below hb6
            obtain ⟨t6, tf6⟩ := TT
            have R := (h6.set (b := w2.heap.size) (o := 0) (.slice A6 20 c6) (.inl (by omega))).rd
            have hz6 := hb6.size
            have BB := (bel_step hb6 hbr (Nat.le_refl _)).setCell (p := ⟨w2.heap.size, 0, none⟩) (by simp; omega) (.slice A6 20 c6)
            clear t0 tf0 h5 hbr h6
            have hvv : (v == v) = true := by simp
            go_wp2_with fail
            refine (fits_st _ _ _ _ _ _ R ha20 hv0 hv1 hv0 hv1).mono ?_
            rw [hvv]
            rintro e w7 ⟨rfl, hb7⟩
            have t7 := keep hb7 T.1
            have R7 := R.below hb7
            have B7 := bel_step hb7 BB (Nat.le_refl _)
            clear R T BB t6 tf6 hvv
            go_wp2_with fail
            refine (ok_st _ _ _ _ _ R7 hv0 hv1).mono ?_
            rintro e w8 ⟨rfl, hb8⟩
            go_wp2
            go_ret
            exact ⟨rfl, bel_step hb8 B7 (Nat.le_refl _)⟩
end Go.Proofs.Ytlohnaodoniajaa
