/- The walk of FnGuardCells. -/
import Derived.Test.YtljholnnhogdkaaPlaces
import Derived.Test.YtljholnnhogdkaaGuardB
import Derived.Lib.QuietBelow
namespace Go.Proofs.Ytljholnnhogdkaa
open Go.ChangeShapes Go.WideShapes Go.ChangeAt Go.RowKit
set_option linter.unusedVariables false

theorem waste_i (s : Int) (hs : btw s 1 8 = true) (w : World) : Calls Try.prog 17 #[.int .i64 s] w fun e w' => e = .returned (.int .i64 (cs (kOf s : Nat) - s)) ∧ w' = w := by
  have hs8 := of_btw hs
  have HK := Lib.hid (fun W => classOf_i s W)
  have hk : kC s = (kOf s : Nat) := by simp [kC, hs]
  rw [hk] at HK
  have hcsb := cs_bd (kOf s : Nat)
  have HCS := Lib.hid (fun W => classSize_i (kOf s : Nat) W)
  generalize kOf s = kk at *
  generalize cs (kk : Int) = m at *
  clear hk hs
  go_enter Try.func17, Try.ntmps17
  go_wp2_with (first | (go_at_call 31; refine (HK.out _).mono ?_; rintro e w ⟨rfl, rfl⟩) | (go_at_call 33; refine (HCS.out _).mono ?_; rintro e w ⟨rfl, rfl⟩))
  go_ret
  exact ⟨rfl, rfl⟩
theorem gl_at (a s : Int) (N j : Nat) (h : j < (gl a s N).length) : (gl a s N)[j] = a + (s + (j : Nat)) := by simp [gl]
set_option maxHeartbeats 1500000 in
theorem law_guardCellsFn (A : Option Addr) (c : Nat) (bs : List Int) (w : World) (hr : Rd w w.heap.size A (bv bs)) (hbb : ∀ b ∈ bs, 0 ≤ b ∧ b ≤ 255) :
    Calls Try.prog 4 #[.slice A bs.length c] w fun e w' => e = .returned (.bool true) ∧ Below w.heap.size w w' := by
  by_cases hbig : (1048576 : Int) < bs.length
  · go_enter Try.func4, Try.ntmps4
    go_wp2_with (go_at_call 13; refine (big_any _ _ _ _).mono ?_; rintro e w1 ⟨rfl, rfl⟩)
    go_ret
    exact ⟨rfl, by (repeat' (first | (with_reducible exact Below.refl _ _) | (with_reducible refine bel_alloc ?_ ?_ _) | (with_reducible refine Below.setCell ?_ ?_ _) | (with_reducible refine below_drewN ?_ _) | (with_reducible refine Below.drew ?_) | (with_reducible exact Nat.le_refl _) | (with_reducible assumption) | omega | (simp only [World.size_alloc, World.size_setCell, World.size_drew]; omega) | (simp; omega) | (simp; done)))⟩
  · have hb : Bytes bs := ⟨by omega, hbb⟩
    go_enter Try.func4, Try.ntmps4
    go_wp2_with (go_at_call 13; refine (big_any _ _ _ _).mono ?_; rintro e w1 ⟨rfl, rfl⟩)
    refine (places_any _ A c bs _ hb hr (Nat.le_refl _)).mono ?_
    rintro e w1 ⟨A1, c1, xs, rfl, hp, ho, hb1⟩
    obtain ⟨g, rfl, hg1, hg2, P, hP, hcell⟩ := places_at ho hp
    have q0 := hcell 0 (by omega)
    have q1 := hcell 1 (by omega)
    have hp0 := hP 0 (by omega)
    have hp1 := hP 1 (by omega)
    obtain ⟨p0, hp0e⟩ : ∃ p0, p0 = P 0 := ⟨_, rfl⟩
    obtain ⟨p1, hp1e⟩ : ∃ p1, p1 = P 1 := ⟨_, rfl⟩
    rw [← hp0e] at q0 hp0
    rw [← hp1e] at q1 hp1
    clear hp0e hp1e hcell hP
    obtain ⟨r, hre⟩ : ∃ r, r = p0 % 8 := ⟨_, rfl⟩
    obtain ⟨t, hte⟩ : ∃ t, t = p1 % 60 := ⟨_, rfl⟩
    have hr8 : 0 ≤ r ∧ r ≤ 7 := by omega
    have ht60 : 0 ≤ t ∧ t ≤ 59 := by omega
    have hm0 : p0.tmod 8 = r := by rw [hre]; exact Int.tmod_eq_emod_of_nonneg hp0.1
    have hm1 : p1.tmod 60 = t := by rw [hte]; exact Int.tmod_eq_emod_of_nonneg hp1.1
    clear hre hte
    have hs8 : btw (1 + r) 1 8 = true := btw_t (by omega) (by omega)
    obtain ⟨hc1, hc2, -⟩ := kOf_cs (s := 1 + r) (by omega)
    have hk : kC (1 + r) = (kOf (1 + r) : Nat) := by simp [kC, hs8]
    have hcsb := cs_bd (kOf (1 + r) : Nat)
    have ha0 : 0 ≤ cs (kOf (1 + r) : Nat) * t := Int.mul_nonneg (by omega) (by omega)
    have ha1 : cs (kOf (1 + r) : Nat) * t ≤ 8 * 59 := Int.mul_le_mul (by omega) (by omega) (by omega) (by omega)
    have hgl : gList (cs (kOf (1 + r) : Nat) * t) (1 + r) = gl (cs (kOf (1 + r) : Nat) * t) (1 + r) (cs (kOf (1 + r) : Nat) - (1 + r)).toNat := by
      have : gOk (cs (kOf (1 + r) : Nat) * t) (1 + r) = true := by
        simp only [gOk, hs8, Bool.true_and, Bool.and_eq_true, decide_eq_true_eq]
        exact ⟨btw_t (by omega) (by omega), Int.mul_emod_right _ _⟩
      rw [gList, this]; rfl
    have H1 := fun W => classOf_s (1 + r) W
    simp only [hk] at H1
    replace H1 := Lib.hid H1
    have H2 := Lib.hid (fun W => classSize_s (kOf (1 + r) : Nat) W)
    have H3 := fun W => guard_i (cs (kOf (1 + r) : Nat) * t) (1 + r) W
    simp only [hgl] at H3
    replace H3 := Lib.hid H3
    have H4 := Lib.hid (fun W => waste_i (1 + r) hs8 W)
    have H5 := Lib.hid (fun W => guard_i 8 5 W)
    have hl5 : (gList 8 5).length = 3 := by
      have h1 : gOk 8 5 = true := by decide
      have h2 : (cs (kOf 5 : Nat) - 5).toNat = 3 := by decide
      rw [gList, h1, if_pos rfl, gl_len, h2]
    have H5L := Lib.hid hl5
    clear hl5
    obtain ⟨N, hN⟩ : ∃ N : Nat, (N : Int) = cs (kOf (1 + r) : Nat) - (1 + r) := ⟨(cs (kOf (1 + r) : Nat) - (1 + r)).toNat, by omega⟩
    rw [show (cs (kOf (1 + r) : Nat) - (1 + r)).toNat = N by omega] at H3
    rw [← hN] at H4
    have hN8 : N ≤ 8 := by omega
    have hw : IntKind.i64.wrap (cs (kOf (1 + r) : Nat) * t) = cs (kOf (1 + r) : Nat) * t := IntWalk.i64_in _ (by omega)
    generalize kOf (1 + r) = kk at *
    clear hk hgl hN hbb hs8
    generalize cs (kk : Int) = m at *
    obtain ⟨a, hae⟩ : ∃ a, a = m * t := ⟨_, rfl⟩
    have HW := Lib.hid (show wrap64 (m * t) = a by rw [wrap64, ← IntKind.wrap_i64, hw, hae])
    rw [← hae] at H3 ha0 ha1
    clear hae hw
    have cE := fun d os => Calls.regrown_of ((H2.out (Go.Sort.grow (redrawn w1 d) os)).mono fun _ _ ⟨h1, h2⟩ => ⟨h1, by rw [h2]; exact Below.refl _ _⟩)
    have k1 := cell_regrown q1
    go_wp2_with (go_at_call 15; refine (H1.out _).mono ?_; rintro e w1 ⟨rfl, rfl⟩)
    refine wp_region_quiet_below (by kernel_rfl) (by kernel_rfl) ?_
    repeat (first | go_big_quiet_step (first | (with_reducible exact cE _ _)) | quiet_step (first | (with_reducible exact cE _ _)))
    refine wpQuiet_nil ?_
    intro _ hw_q
    obtain ⟨⟨dq, osq⟩, hw_q'⟩ := hw_q
    subst hw_q'
    have hbq := below_regrown w1 dq osq
    generalize Go.Sort.grow (redrawn w1 dq) osq = wq at *
    go_wp2_with fail
    simp only [HW.out]
    refine (H3.out _).mono ?_
    rintro e w2 ⟨A2, c2, S2, rfl, hW2, hN2, hb2⟩
    have hgn : (gl a (1 + r) N).length = N := gl_len _ _ _
    have hrd := hW2.rd
    have HGN := Lib.hid hgn
    have HAT := Lib.hid (gl_at a (1 + r) N)
    rw [hgn]
    clear hgn
    generalize gl a (1 + r) N = ys at *
    go_wp2
    go_loop [8] (fun v => ∃ j : Nat, j ≤ N ∧ v = .int .i64 j) (fun v => N - (intOf v).toNat)
    case atStart => exact ⟨0, Nat.zero_le _, rfl⟩
    case round =>
      obtain ⟨j, hj, rfl⟩ := hrel
      by_cases hlt : j < N
      · have hjy : j < ys.length := by rw [HGN.out]; exact hlt
        obtain ⟨b2, off2, rfl, -, hx⟩ := hrd.int (k := j) hjy
        rw [HAT.out j hjy] at hx
        have hne : ((a + (1 + r + (j : Int))) != (a + (1 + r) + (j : Int))) = false := by simp; omega
        go_wp2
        go_round
        case rel => exact ⟨j + 1, by omega, by go_num⟩
        case measure => simp [intOf]; omega
      · obtain rfl : j = N := by omega
        go_wp2_with (go_at_call 17; refine (H4.out _).mono ?_; rintro e w2 ⟨rfl, rfl⟩)
        refine (H5.out _).mono ?_
        rintro e w3 ⟨A3, c3, S3, rfl, -, -, hb3⟩
        rw [H5L.out]
        go_wp2
        go_ret
        exact ⟨rfl, by (repeat' (first | (with_reducible exact Below.refl _ _) | (with_reducible refine bel_alloc ?_ ?_ _) | (with_reducible refine Below.setCell ?_ ?_ _) | (with_reducible refine below_drewN ?_ _) | (with_reducible refine Below.drew ?_) | (with_reducible refine bel_step hbq ?_ ?_) | (with_reducible refine bel_step hb1 ?_ ?_) | (with_reducible refine bel_step hb2 ?_ ?_) | (with_reducible refine bel_step hb3 ?_ ?_) | (with_reducible exact Nat.le_refl _) | (with_reducible assumption) | omega | (simp only [World.size_alloc, World.size_setCell, World.size_drew]; omega) | (simp; omega) | (simp; done)))⟩
end Go.Proofs.Ytljholnnhogdkaa
