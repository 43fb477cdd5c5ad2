/- GuardCells, of the program and of the reference. -/
import Derived.Test.YtljholnnhogdkaaGuardA
namespace Go.Proofs.Ytljholnnhogdkaa
open Go.ChangeShapes Go.WideShapes Go.ChangeAt Go.RowKit
set_option linter.unusedVariables false

def gOk (a s : Int) : Bool := btw s 1 8 && btw a 0 511 && decide (a % cs (kOf s : Nat) = 0)
def gl (a s : Int) (n : Nat) : List Int := (List.range n).map (fun i : Nat => a + (s + (i : Nat)))
theorem gl_len (a s : Int) (n : Nat) : (gl a s n).length = n := by simp [gl]
theorem gl_succ (a s : Int) (n : Nat) : gl a s (n + 1) = gl a s n ++ [a + (s + (n : Nat))] := by simp [gl, List.range_succ]
def gList (a s : Int) : List Int := if gOk a s then gl a s (cs (kOf s : Nat) - s).toNat else []
set_option maxRecDepth 100000 in
set_option maxHeartbeats 2000000 in
theorem guard_i (a s : Int) (w : World) : Calls Try.prog 9 #[.int .i64 a, .int .i64 s] w (MadeIntSN (gList a s) w) := by
  have hO0 := own_lit (w := w) (g := w.heap.size) (e := 3) (size := 1) rfl
  have HK := Lib.hid (fun W => classOf_i s W)
  cases hs : btw s 1 8 with
  | false =>
    have HR := Lib.hid (show gList a s = [] by simp [gList, gOk, hs])
    have hk : kC s = -1 := by simp [kC, hs]
    rw [hk] at HK
    clear hk hs
    go_enter Try.func9, Try.ntmps9
    go_wp2_with (go_at_call 31; refine (HK.out _).mono ?_; rintro e w ⟨rfl, rfl⟩)
    rw [HR.out]
    refine bodyPost_ret (v := .slice none 0 0) (by simp [results, Try.results9, go_sem]) rfl (made_nil _ _ ?_)
    (repeat' (first | (with_reducible exact Below.refl _ _) | (with_reducible refine bel_alloc ?_ ?_ _) | (with_reducible refine Below.setCell ?_ ?_ _) | (with_reducible refine below_drewN ?_ _) | (with_reducible refine Below.drew ?_) | (with_reducible exact Nat.le_refl _) | (with_reducible assumption) | omega | (simp only [World.size_alloc, World.size_setCell, World.size_drew]; omega) | (simp; omega) | (simp; done)))
  | true =>
    have hs8 := of_btw hs
    obtain ⟨hm1, hm2, -⟩ := kOf_cs hs8
    have hk : kC s = (kOf s : Nat) := by simp [kC, hs]
    rw [hk] at HK
    have HG := Lib.hid (show gOk a s = (btw a 0 511 && decide (a % cs (kOf s : Nat) = 0)) by simp [gOk, hs])
    have HL := Lib.hid (show gList a s = if gOk a s then gl a s (cs (kOf s : Nat) - s).toNat else [] from rfl)
    have hcsb := cs_bd (kOf s : Nat)
    have HCS := Lib.hid (fun W => classSize_i (kOf s : Nat) W)
    generalize kOf s = kk at *
    generalize cs (kk : Int) = m at *
    clear hk hs
    cases hb : btw a 0 511 with
    | false =>
      have HR := Lib.hid (show gList a s = [] by rw [HL.out, HG.out, hb]; rfl)
      go_enter Try.func9, Try.ntmps9
      go_wp2_with (first | (go_at_call 31; refine (HK.out _).mono ?_; rintro e w ⟨rfl, rfl⟩) | (go_at_call 32; refine (between_q _ _ _ _).mono ?_; rintro e w ⟨rfl, rfl⟩) | (go_at_call 33; refine (HCS.out _).mono ?_; rintro e w ⟨rfl, rfl⟩))
      rw [HR.out]
      refine bodyPost_ret (v := .slice none 0 0) (by simp [results, Try.results9, go_sem]) rfl (made_nil _ _ ?_)
      (repeat' (first | (with_reducible exact Below.refl _ _) | (with_reducible refine bel_alloc ?_ ?_ _) | (with_reducible refine Below.setCell ?_ ?_ _) | (with_reducible refine below_drewN ?_ _) | (with_reducible refine Below.drew ?_) | (with_reducible exact Nat.le_refl _) | (with_reducible assumption) | omega | (simp only [World.size_alloc, World.size_setCell, World.size_drew]; omega) | (simp; omega) | (simp; done)))
    | true =>
      have ha := of_btw hb
      have HB := Lib.hid hb
      have htm : a.tmod m = a % m := Int.tmod_eq_emod_of_nonneg ha.1
      by_cases hrem : a % m = 0
      · obtain ⟨N, hN⟩ : ∃ N : Nat, s + (N : Int) = m := ⟨(m - s).toNat, by omega⟩
        have HR := Lib.hid (show gList a s = gl a s N by
          rw [HL.out, HG.out, hb, hrem]
          have : (m - s).toNat = N := by omega
          rw [this]; rfl)
        have HN := Lib.hid hN
        have hN8 : N ≤ 8 := by omega
        clear hN
        obtain ⟨i0, hi, iz0, iz1, iz2⟩ := info_parts infoInt
        go_enter Try.func9, Try.ntmps9
        go_wp2_with (first | (go_at_call 31; refine (HK.out _).mono ?_; rintro e w ⟨rfl, rfl⟩) | (go_at_call 32; refine (between_q _ _ _ _).mono ?_; rintro e w ⟨rfl, rfl⟩) | (go_at_call 33; refine (HCS.out _).mono ?_; rintro e w ⟨rfl, rfl⟩))
        go_loopw [6, 7] (fun u v wr => ∃ (j : Nat) (A2 : Option Addr) (c2 : Nat), j ≤ N ∧ v = .int .i64 (s + (j : Nat)) ∧ u = .slice A2 j c2 ∧ wr.ownsRow w.heap.size 3 1 (.slice A2 j c2) j (iv (gl a s j)) ∧ w.heap.size ≤ wr.heap.size ∧ Below w.heap.size w wr) (fun _ v _ => (m - intOf v).toNat)
        case atStart => exact ⟨0, some ⟨w.heap.size, 0, none⟩, 0, Nat.zero_le _, by simp, rfl, hO0, by simp, by (repeat' (first | (with_reducible exact Below.refl _ _) | (with_reducible refine bel_alloc ?_ ?_ _) | (with_reducible refine Below.setCell ?_ ?_ _) | (with_reducible refine below_drewN ?_ _) | (with_reducible refine Below.drew ?_) | (with_reducible exact Nat.le_refl _) | (with_reducible assumption) | omega | (simp only [World.size_alloc, World.size_setCell, World.size_drew]; omega) | (simp; omega) | (simp; done)))⟩
        case round =>
          obtain ⟨j, A2, c2, hj, rfl, rfl, hown, hg, hbr⟩ := hrel
          have hNm := HN.out
          by_cases hlt : j < N
          · have hc : s + (j : Int) < m := by omega
            have hapt := own_lo hown
            clear hNm
            go_wp2_with (first | (go_at_call 33; refine (HCS.out _).mono ?_; rintro e wr ⟨rfl, rfl⟩) | (at_builtin; refine wpList_append_ow rfl (.tmp 32) (.tmp 36) _ rfl 3 i0 (.int .i64 0) 1 8 Try.underlying22 hi iz0 iz1 iz2 rfl (by omega) w.heap.size A2 j c2 (iv (gl a s j)) rfl (own_below' hown ((Below.refl _ _).alloc (Nat.le_refl _) _)) (some ⟨wr.heap.size, 0, none⟩) 1 1 (iv [a + (s + (j : Nat))]) rfl rfl (Rd.lit (by simp)) (iv_one _) (by unfold maxLen; omega) (by omega) (by simp; omega) ?_; intro A4 c4 w4 hO4 hS4 hA4))
            have hz4 := hS4.size
            simp only [World.size_alloc] at hz4
            go_roundw
            case rel =>
              refine ⟨j + 1, A4, c4, by omega, by go_num, rfl, by rw [gl_succ, iv_app]; exact hO4, by omega, ?_⟩
              exact bel_outS hS4 (fun y hy => hapt y hy) (by (repeat' (first | (with_reducible exact Below.refl _ _) | (with_reducible refine bel_alloc ?_ ?_ _) | (with_reducible refine Below.setCell ?_ ?_ _) | (with_reducible refine below_drewN ?_ _) | (with_reducible refine Below.drew ?_) | (with_reducible refine bel_step hbr ?_ ?_) | (with_reducible exact Nat.le_refl _) | (with_reducible assumption) | omega | (simp only [World.size_alloc, World.size_setCell, World.size_drew]; omega) | (simp; omega) | (simp; done)))) (Nat.le_refl _)
            case measure => simp [intOf]; omega
          · obtain rfl : j = N := by omega
            go_wp2_with (go_at_call 33; refine (HCS.out _).mono ?_; rintro e wr ⟨rfl, rfl⟩)
            go_ret
            rw [HR.out]
            exact made_own (gl_len _ _ _).symm hown (Nat.le_refl _) hbr
      · have HR := Lib.hid (show gList a s = [] by rw [HL.out, HG.out, hb]; simp [hrem])
        have hrb : (a % m != 0) = true := by simpa using hrem
        go_enter Try.func9, Try.ntmps9
        go_wp2_with (first | (go_at_call 31; refine (HK.out _).mono ?_; rintro e w ⟨rfl, rfl⟩) | (go_at_call 32; refine (between_q _ _ _ _).mono ?_; rintro e w ⟨rfl, rfl⟩) | (go_at_call 33; refine (HCS.out _).mono ?_; rintro e w ⟨rfl, rfl⟩))
        rw [HR.out]
        refine bodyPost_ret (v := .slice none 0 0) (by simp [results, Try.results9, go_sem]) rfl (made_nil _ _ ?_)
        (repeat' (first | (with_reducible exact Below.refl _ _) | (with_reducible refine bel_alloc ?_ ?_ _) | (with_reducible refine Below.setCell ?_ ?_ _) | (with_reducible refine below_drewN ?_ _) | (with_reducible refine Below.drew ?_) | (with_reducible exact Nat.le_refl _) | (with_reducible assumption) | omega | (simp only [World.size_alloc, World.size_setCell, World.size_drew]; omega) | (simp; omega) | (simp; done)))
set_option maxRecDepth 100000 in
set_option maxHeartbeats 2000000 in
theorem guard_s (a s : Int) (w : World) : Calls Try.prog 8 #[.int .i64 a, .int .i64 s] w (MadeIntSN (gList a s) w) := by
  have hO0 := own_lit (w := w) (g := w.heap.size) (e := 3) (size := 1) rfl
  have HK := Lib.hid (fun W => classOf_s s W)
  cases hs : btw s 1 8 with
  | false =>
    have HR := Lib.hid (show gList a s = [] by simp [gList, gOk, hs])
    have hk : kC s = -1 := by simp [kC, hs]
    rw [hk] at HK
    clear hk hs
    go_enter Try.func8, Try.ntmps8
    go_wp2_with (go_at_call 15; refine (HK.out _).mono ?_; rintro e w ⟨rfl, rfl⟩)
    rw [HR.out]
    go_ret
    exact made_own (n := 0) rfl hO0 (Nat.le_refl _) (by (repeat' (first | (with_reducible exact Below.refl _ _) | (with_reducible refine bel_alloc ?_ ?_ _) | (with_reducible refine Below.setCell ?_ ?_ _) | (with_reducible refine below_drewN ?_ _) | (with_reducible refine Below.drew ?_) | (with_reducible exact Nat.le_refl _) | (with_reducible assumption) | omega | (simp only [World.size_alloc, World.size_setCell, World.size_drew]; omega) | (simp; omega) | (simp; done))))
  | true =>
    have hs8 := of_btw hs
    obtain ⟨hm1, hm2, -⟩ := kOf_cs hs8
    have hk : kC s = (kOf s : Nat) := by simp [kC, hs]
    rw [hk] at HK
    have HG := Lib.hid (show gOk a s = (btw a 0 511 && decide (a % cs (kOf s : Nat) = 0)) by simp [gOk, hs])
    have HL := Lib.hid (show gList a s = if gOk a s then gl a s (cs (kOf s : Nat) - s).toNat else [] from rfl)
    have hcsb := cs_bd (kOf s : Nat)
    have HCS := Lib.hid (fun W => classSize_s (kOf s : Nat) W)
    generalize kOf s = kk at *
    generalize cs (kk : Int) = m at *
    clear hk hs
    cases hb : btw a 0 511 with
    | false =>
      have HR := Lib.hid (show gList a s = [] by rw [HL.out, HG.out, hb]; rfl)
      go_enter Try.func8, Try.ntmps8
      go_wp2_with (first | (go_at_call 15; refine (HK.out _).mono ?_; rintro e w ⟨rfl, rfl⟩) | (go_at_call 30; refine (l01In_q _ _ _ _).mono ?_; rintro e w ⟨rfl, rfl⟩) | (go_at_call 16; refine (HCS.out _).mono ?_; rintro e w ⟨rfl, rfl⟩))
      rw [HR.out]
      go_ret
      exact made_own (n := 0) rfl hO0 (Nat.le_refl _) (by (repeat' (first | (with_reducible exact Below.refl _ _) | (with_reducible refine bel_alloc ?_ ?_ _) | (with_reducible refine Below.setCell ?_ ?_ _) | (with_reducible refine below_drewN ?_ _) | (with_reducible refine Below.drew ?_) | (with_reducible exact Nat.le_refl _) | (with_reducible assumption) | omega | (simp only [World.size_alloc, World.size_setCell, World.size_drew]; omega) | (simp; omega) | (simp; done))))
    | true =>
      have ha := of_btw hb
      have HB := Lib.hid hb
      have htm : a.tmod m = a % m := Int.tmod_eq_emod_of_nonneg ha.1
      by_cases hrem : a % m = 0
      · obtain ⟨N, hN⟩ : ∃ N : Nat, s + (N : Int) = m := ⟨(m - s).toNat, by omega⟩
        have HR := Lib.hid (show gList a s = gl a s N by
          rw [HL.out, HG.out, hb, hrem]
          have : (m - s).toNat = N := by omega
          rw [this]; rfl)
        have HN := Lib.hid hN
        have hN8 : N ≤ 8 := by omega
        clear hN
        obtain ⟨i0, hi, iz0, iz1, iz2⟩ := info_parts infoInt
        go_enter Try.func8, Try.ntmps8
        go_wp2_with (first | (go_at_call 15; refine (HK.out _).mono ?_; rintro e w ⟨rfl, rfl⟩) | (go_at_call 30; refine (l01In_q _ _ _ _).mono ?_; rintro e w ⟨rfl, rfl⟩) | (go_at_call 16; refine (HCS.out _).mono ?_; rintro e w ⟨rfl, rfl⟩))
        go_loopw [5, 7] (fun u v wr => ∃ (j : Nat) (A2 : Option Addr) (c2 : Nat), j ≤ N ∧ v = .int .i64 (s + (j : Nat)) ∧ u = .slice A2 j c2 ∧ wr.ownsRow w.heap.size 3 1 (.slice A2 j c2) j (iv (gl a s j)) ∧ w.heap.size ≤ wr.heap.size ∧ Below w.heap.size w wr) (fun _ v _ => (m - intOf v).toNat)
        case atStart => exact ⟨0, some ⟨w.heap.size, 0, none⟩, 0, Nat.zero_le _, by simp, rfl, hO0, by simp, by (repeat' (first | (with_reducible exact Below.refl _ _) | (with_reducible refine bel_alloc ?_ ?_ _) | (with_reducible refine Below.setCell ?_ ?_ _) | (with_reducible refine below_drewN ?_ _) | (with_reducible refine Below.drew ?_) | (with_reducible exact Nat.le_refl _) | (with_reducible assumption) | omega | (simp only [World.size_alloc, World.size_setCell, World.size_drew]; omega) | (simp; omega) | (simp; done)))⟩
        case round =>
          obtain ⟨j, A2, c2, hj, rfl, rfl, hown, hg, hbr⟩ := hrel
          have hNm := HN.out
          by_cases hlt : j < N
          · have hc : s + (j : Int) < m := by omega
            have hapt := own_lo hown
            clear hNm
            go_wp2_with (first | (go_at_call 16; refine (HCS.out _).mono ?_; rintro e wr ⟨rfl, rfl⟩) | (at_builtin; refine wpList_append_ow rfl (.tmp 33) (.tmp 37) _ rfl 3 i0 (.int .i64 0) 1 8 Try.underlying22 hi iz0 iz1 iz2 rfl (by omega) w.heap.size A2 j c2 (iv (gl a s j)) rfl (own_below' hown ((Below.refl _ _).alloc (Nat.le_refl _) _)) (some ⟨wr.heap.size, 0, none⟩) 1 1 (iv [a + (s + (j : Nat))]) rfl rfl (Rd.lit (by simp)) (iv_one _) (by unfold maxLen; omega) (by omega) (by simp; omega) ?_; intro A4 c4 w4 hO4 hS4 hA4))
            have hz4 := hS4.size
            simp only [World.size_alloc] at hz4
            go_roundw
            case rel =>
              refine ⟨j + 1, A4, c4, by omega, by go_num, rfl, by rw [gl_succ, iv_app]; exact hO4, by omega, ?_⟩
              exact bel_outS hS4 (fun y hy => hapt y hy) (by (repeat' (first | (with_reducible exact Below.refl _ _) | (with_reducible refine bel_alloc ?_ ?_ _) | (with_reducible refine Below.setCell ?_ ?_ _) | (with_reducible refine below_drewN ?_ _) | (with_reducible refine Below.drew ?_) | (with_reducible refine bel_step hbr ?_ ?_) | (with_reducible exact Nat.le_refl _) | (with_reducible assumption) | omega | (simp only [World.size_alloc, World.size_setCell, World.size_drew]; omega) | (simp; omega) | (simp; done)))) (Nat.le_refl _)
            case measure => simp [intOf]; omega
          · obtain rfl : j = N := by omega
            go_wp2_with (go_at_call 16; refine (HCS.out _).mono ?_; rintro e wr ⟨rfl, rfl⟩)
            go_ret
            rw [HR.out]
            exact made_own (gl_len _ _ _).symm hown (Nat.le_refl _) hbr
      · have HR := Lib.hid (show gList a s = [] by rw [HL.out, HG.out, hb]; simp [hrem])
        have hrb : (a % m != 0) = true := by simpa using hrem
        go_enter Try.func8, Try.ntmps8
        go_wp2_with (first | (go_at_call 15; refine (HK.out _).mono ?_; rintro e w ⟨rfl, rfl⟩) | (go_at_call 30; refine (l01In_q _ _ _ _).mono ?_; rintro e w ⟨rfl, rfl⟩) | (go_at_call 16; refine (HCS.out _).mono ?_; rintro e w ⟨rfl, rfl⟩))
        rw [HR.out]
        go_ret
        exact made_own (n := 0) rfl hO0 (Nat.le_refl _) (by (repeat' (first | (with_reducible exact Below.refl _ _) | (with_reducible refine bel_alloc ?_ ?_ _) | (with_reducible refine Below.setCell ?_ ?_ _) | (with_reducible refine below_drewN ?_ _) | (with_reducible refine Below.drew ?_) | (with_reducible exact Nat.le_refl _) | (with_reducible assumption) | omega | (simp only [World.size_alloc, World.size_setCell, World.size_drew]; omega) | (simp; omega) | (simp; done))))
theorem gList_len (a s : Int) : (gList a s).length ≤ 1048576 := by
  unfold gList
  have := cs_bd (kOf s : Nat)
  split
  · rename_i h
    simp only [gOk, Bool.and_eq_true] at h
    have := of_btw h.1.1
    rw [gl_len]; omega
  · simp
end Go.Proofs.Ytljholnnhogdkaa
