/- The walk of FnCoalesced. -/
import Derived.Test.YtfdpplamebmdhaaRangeD
import Derived.Test.YtfdpplamebmdhaaRangeZ
import Derived.Test.YtfdpplamebmdhaaRangeR
import Derived.Test.YtfdpplamebmdhaaShuf
namespace Go.Proofs.Ytfdpplamebmdhaa
open Go.ChangeShapes Go.WideShapes Go.ChangeAt Go.RowKit
set_option linter.unusedVariables false
set_option linter.unusedSimpArgs false

set_option maxRecDepth 100000 in
set_option maxHeartbeats 8000000 in
theorem law_coalesced (A : Option Addr) (c : Nat) (bs : List Int) (w : World) (hr : Rd w w.heap.size A (bv bs)) (hbb : ∀ b ∈ bs, 0 ≤ b ∧ b ≤ 255) :
    Calls Try.prog 7 #[.slice A bs.length c] w fun e w' => e = .returned (.bool true) ∧ Below w.heap.size w w' := by
  by_cases hbig : (1048576 : Int) < bs.length
  · go_enter Try.func7, Try.ntmps7
    go_wp2_with (go_at_call 23; refine (big_any _ _ _ _).mono ?_; rintro e w ⟨rfl, rfl⟩)
    go_ret
    exact ⟨rfl, by (repeat' (first | (with_reducible exact Below.refl _ _) | (with_reducible refine bel_alloc ?_ ?_ _) | (with_reducible refine Below.setCell ?_ ?_ _) | (with_reducible refine below_drewN ?_ _) | (with_reducible refine Below.drew ?_) | (with_reducible exact Nat.le_refl _) | (with_reducible assumption) | omega | (simp only [World.size_alloc, World.size_setCell, World.size_drew]; omega) | (simp; omega) | (simp; done)))⟩
  · have hb : Bytes bs := ⟨by omega, hbb⟩
    go_enter Try.func7, Try.ntmps7
    go_wp2_with (go_at_call 23; refine (big_any _ _ _ _).mono ?_; rintro e w ⟨rfl, rfl⟩)
    refine (places_any _ A c bs _ hb hr (Nat.le_refl _)).mono ?_
    rintro e w1 ⟨A1, c1, ps, rfl, hp, ho, hb1⟩
    obtain ⟨g, rfl, hg1, hg2, P, hP, hcell⟩ := places_at ho hp
    have q0 := hcell 0 (by omega)
    have q1 := hcell 1 (by omega)
    have hp0 := hP 0 (by omega)
    have hp1 := hP 1 (by omega)
    obtain ⟨n, hn⟩ : ∃ n : Nat, (n : Int) = 2 + P 0 % 10 := ⟨(2 + P 0 % 10).toNat, by omega⟩
    have hn2 : 2 ≤ n ∧ n ≤ 11 := by omega
    have HN := Lib.hid hn
    generalize P 0 = p0 at *
    generalize P 1 = p1 at *
    clear hcell hP ho hn hr
    go_wp2_with fail
    rw [← HN.out]
    refine (shuffled_s p1 n _ (by omega) (by omega)).mono ?_
    rintro e w2 ⟨A2, c2, od, s2, rfl, hod, hR2, hb2⟩
    have HOD := Lib.hid hod
    have HOL := Lib.hid hod.len
    have hbw2 : Below w.heap.size w w2 := by (repeat' (first | (with_reducible exact Below.refl _ _) | (with_reducible refine bel_alloc ?_ ?_ _) | (with_reducible refine Below.setCell ?_ ?_ _) | (with_reducible refine below_drewN ?_ _) | (with_reducible refine Below.drew ?_) | (with_reducible refine bel_step hb1 ?_ ?_) | (with_reducible refine bel_step hb2 ?_ ?_) | (with_reducible exact Nat.le_refl _) | (with_reducible assumption) | omega | (simp only [World.size_alloc, World.size_setCell, World.size_drew]; omega) | (simp; omega) | (simp; done)))
    have hz2 := hbw2.size
    clear hod hb1 hb2 q0 q1
    have HK0 := Lib.hid (show rOkB (n : Int) [] = true from rOk_of (by omega) trivial (by simp))
    go_wp2_with fail
    go_loopw [7, 8] (fun u v wr => ∃ (k : Nat) (A3 : Option Addr) (c3 : Nat) (xs : List Rg), k ≤ n ∧ v = .int .i64 k ∧ u = .slice A3 xs.length c3 ∧ rOkB (n : Int) xs = true ∧ tot xs = k ∧ (∀ q, cov xs q ↔ q ∈ od.take k) ∧ Rd wr wr.heap.size A3 (pv xs) ∧ Below w2.heap.size w2 wr) (fun _ v _ => n - (intOf v).toNat)
    case atStart => exact ⟨0, some ⟨w2.heap.size, 0, none⟩, 0, [], Nat.zero_le _, rfl, rfl, HK0.out, rfl, fun q => by simp [cov], .inl rfl, by (repeat' (first | (with_reducible exact Below.refl _ _) | (with_reducible refine bel_alloc ?_ ?_ _) | (with_reducible refine Below.setCell ?_ ?_ _) | (with_reducible refine below_drewN ?_ _) | (with_reducible refine Below.drew ?_) | (with_reducible exact Nat.le_refl _) | (with_reducible assumption) | omega | (simp only [World.size_alloc, World.size_setCell, World.size_drew]; omega) | (simp; omega) | (simp; done)))⟩
    case round =>
      obtain ⟨k, A3, c3, xs, hk, rfl, rfl, hok, htot, hcov, hR3, hbr⟩ := hrel
      have hl33 := rOk_len hok
      have HK := Lib.hid hok
      have HT := Lib.hid htot
      have HC := Lib.hid hcov
      clear hok htot hcov HK0
      have hR2r := hR2.lt.below hbr
      by_cases hlt : k < n
      · have hko : k < od.length := by rw [HOL.out]; exact hlt
        have i0 : (0 : Int) ≤ (k : Int) := by omega
        have i1 : (k : Int) < (n : Int) := by omega
        obtain ⟨b, off, rfl, -, hd⟩ := hR2r.int hko
        have hab := HOD.out.bd od[k] (List.getElem_mem hko)
        have hnc : ¬ cov xs od[k] := by
          intro h
          have h1 := (HC.out _).1 h
          obtain ⟨j, hj, e⟩ := List.getElem_of_mem h1
          rw [List.getElem_take] at e
          have hj2 : j < k := by simp at hj; omega
          have := HOD.out.inj j k (by omega) hko e
          omega
        obtain ⟨a, ha⟩ : ∃ a, a = od[k] := ⟨_, rfl⟩
        have HA := Lib.hid ha
        rw [← ha] at hd hab hnc
        clear ha
        have hri : rInB (n : Int) (a, 1) = true := by
          simp only [rInB, Bool.and_eq_true]
          exact ⟨btw_t (by omega) (by omega), btw_t (by omega) (by omega)⟩
        have hno := no_ov (r := (a, 1)) rfl hnc
        obtain ⟨ys, j1, j2, j3, j4⟩ := ip_ok (r := (a, 1)) (by simp) (srt_all HK.out) (by simp only; omega) hno
        have hoky := rOk_put HK.out hri hno j1
        obtain ⟨sy1, sy2, sy3⟩ := sum_tot hoky
        have hyl := rOk_len hoky
        have hty : tot ys = (k : Int) + 1 := by rw [j3, HT.out]
        rw [hty] at sy1
        have HP1 := Lib.hid (fun W h => (show Calls _ _ _ _ (MadeRP ys true W) from rangePut_i_yes (B := W.heap.size) (n : Int) A3 c3 xs a 1 W h (by omega) (by omega) HK.out hri (some ys) j1))
        have HOY := Lib.hid (fun (A' : Option Addr) (c' : Nat) W h => (show Calls _ _ _ _ (fun e w' => e = .returned (.bool true) ∧ Below W.heap.size W w') by have := rangesOk_i (B := W.heap.size) (n : Int) A' c' ys W h (by omega) (by omega); rwa [hoky] at this))
        have HSY := Lib.hid (fun (A' : Option Addr) (c' : Nat) W h => (show Calls _ _ _ _ (fun e w' => e = .returned (.int .i64 ((k : Int) + 1)) ∧ Below W.heap.size W w') by have := rangePages_i (B := W.heap.size) A' c' ys W h (by omega); rwa [sy1] at this))
        have HKY := Lib.hid hoky
        have HTY := Lib.hid hty
        have HCY := Lib.hid (show ∀ q, cov ys q ↔ q ∈ od.take (k + 1) from fun q => by
          rw [j4 q, HC.out q, List.take_succ_eq_append_getElem hko, List.mem_append, ← HA.out]
          simp only [List.mem_singleton]
          constructor
          · rintro (h | h)
            · exact .inl h
            · exact .inr (by omega)
          · rintro (h | h)
            · exact .inl h
            · exact .inr (by omega))
        have hkk : (((k : Int) + 1) != ((k : Int) + 1)) = false := by simp
        clear hri hno j1 j2 j3 j4 hoky sy1 sy2 sy3 hty hnc
        go_wp2_with fail
        refine (HP1.out _ hR3).mono ?_
        rintro e w4 ⟨A4, c4, S4, rfl, hW4, hN4, hb4, hcap4⟩
        have hR4 := hW4.rd
        clear hW4 hN4 hcap4
        go_wp2_with fail
        refine (HOY.out A4 c4 _ hR4).mono ?_
        rintro e w5 ⟨rfl, hb5⟩
        replace hR4 := hR4.below hb5
        go_wp2_with fail
        refine (HSY.out A4 c4 _ hR4.lt).mono ?_
        rintro e w6 ⟨rfl, hb6⟩
        replace hR4 := hR4.below hb6
        go_wp2
        go_roundw
        case rel => exact ⟨k + 1, A4, c4, ys, by omega, by go_num, rfl, HKY.out, by rw [HTY.out]; omega, HCY.out, hR4.lt, by (repeat' (first | (with_reducible exact Below.refl _ _) | (with_reducible refine bel_alloc ?_ ?_ _) | (with_reducible refine Below.setCell ?_ ?_ _) | (with_reducible refine below_drewN ?_ _) | (with_reducible refine Below.drew ?_) | (with_reducible refine bel_step hbr ?_ ?_) | (with_reducible refine bel_step hb4 ?_ ?_) | (with_reducible refine bel_step hb5 ?_ ?_) | (with_reducible refine bel_step hb6 ?_ ?_) | (with_reducible exact Nat.le_refl _) | (with_reducible assumption) | omega | (simp only [World.size_alloc, World.size_setCell, World.size_drew]; omega) | (simp; omega) | (simp; done)))⟩
        case measure => simp [intOf]; omega
      · obtain rfl : k = n := by omega
        have hfull : ∀ q, cov xs q ↔ 0 ≤ q ∧ q < (k : Int) := by
          intro q
          rw [HC.out q, List.take_of_length_le (by rw [HOL.out]; exact Nat.le_refl _)]
          constructor
          · exact HOD.out.bd q
          · intro hq
            exact ord_full HOD.out q hq
        have hxs := cov_full (by omega) (srt_all HK.out) hfull
        subst hxs
        have HWD := Lib.hid (fun W h => (show Calls _ _ _ _ (fun e w' => e = .returned (.int .i64 (k : Int)) ∧ Below W.heap.size W w') by have := widest_i (B := W.heap.size) A3 c3 [(0, (k : Int))] W h (by simp); have e : wid [((0 : Int), (k : Int))] [((0 : Int), (k : Int))].length = (k : Int) := (by simp [wid, maxI]; try omega); rwa [e] at this))
        clear hfull HC HK HT
        have hkk : ((k : Int) == (k : Int)) = true := by simp
        go_wp2_with fail
        refine (HWD.out _ hR3).mono ?_
        rintro e w4 ⟨rfl, hb4⟩
        go_wp2
        go_ret
        exact ⟨rfl, by (repeat' (first | (with_reducible exact Below.refl _ _) | (with_reducible refine bel_alloc ?_ ?_ _) | (with_reducible refine Below.setCell ?_ ?_ _) | (with_reducible refine below_drewN ?_ _) | (with_reducible refine Below.drew ?_) | (with_reducible refine bel_step hbw2 ?_ ?_) | (with_reducible refine bel_step hbr ?_ ?_) | (with_reducible refine bel_step hb4 ?_ ?_) | (with_reducible exact Nat.le_refl _) | (with_reducible assumption) | omega | (simp only [World.size_alloc, World.size_setCell, World.size_drew]; omega) | (simp; omega) | (simp; done)))⟩
end Go.Proofs.Ytfdpplamebmdhaa
