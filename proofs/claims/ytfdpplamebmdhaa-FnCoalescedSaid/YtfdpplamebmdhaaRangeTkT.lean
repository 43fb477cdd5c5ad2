/- RangeTake, of the program: something fits. -/
import Derived.Test.YtfdpplamebmdhaaRangeTkR
import Derived.Test.YtfdpplamebmdhaaRangeTkS
namespace Go.Proofs.Ytfdpplamebmdhaa
open Go.ChangeShapes Go.WideShapes Go.ChangeAt Go.RowKit
set_option linter.unusedVariables false
set_option linter.unusedSimpArgs false

theorem tkL_eq {n : Int} {xs : List Rg} {j : Nat} (hj : j < xs.length) (h : xs[j].2 = n) : tkL n xs j = xs.take j ++ xs.drop (j + 1) := by
  unfold tkL
  rw [getD_at hj, if_pos h]
theorem tkL_ne {n : Int} {xs : List Rg} {j : Nat} (hj : j < xs.length) (h : xs[j].2 ≠ n) : tkL n xs j = xs.set j (xs[j].1 + n, xs[j].2 - n) := by
  unfold tkL
  rw [getD_at hj, if_neg h]
set_option maxHeartbeats 8000000 in
set_option maxRecDepth 100000 in
theorem rangeTake_i_yes (pages : Int) (A : Option Addr) (c : Nat) (xs : List Rg) (n : Int) (w : World) {B : Nat} (hr : Rd w B A (pv xs)) (hn : xs.length ≤ 1048576) (hpg : -9223372036854775808 ≤ pages ∧ pages ≤ 9223372036854775807) (h1 : rOkB pages xs = true) (h2 : 1 ≤ n) (jj : Nat) (h3 : bst n xs xs.length = (jj : Int)) (hjx : jj < xs.length) :
    Calls Try.prog 28 #[.int .i64 pages, .slice A xs.length c, .int .i64 n] w (MadeRT (tkL n xs jj) xs[jj].1 true w) := by
  obtain ⟨hall, hp1, hp32⟩ := rOkB_facts h1
  have hin := rInB_yes (okAt_in hjx (hall jj hjx))
  have hge0 := bst_ge n xs xs.length (by omega)
  rw [h3] at hge0
  have hge1 : n ≤ xs[jj].2 := by simpa [List.getElem?_eq_getElem hjx] using hge0
  obtain ⟨u1, hu1⟩ : ∃ u, u = xs[jj].1 := ⟨_, rfl⟩
  obtain ⟨u2, hu2⟩ : ∃ u, u = xs[jj].2 := ⟨_, rfl⟩
  rw [← hu2, ← hu1] at hin
  rw [← hu2] at hge1
  have HU1 := Lib.hid hu1
  have HU2 := Lib.hid hu2
  have HIN := Lib.hid hin
  have HGE := Lib.hid hge1
  have H3 := Lib.hid h3
  clear hall hin hge0 hge1 hu1 hu2 h3
  have CO := fun W (h : Rd W W.heap.size A (pv xs)) => rangesOk_i pages A c xs W h hn hpg
  rw [h1] at CO
  have CO := Lib.hid CO
  go_enter Try.func28, Try.ntmps28
  go_wp2_with fail
  refine (copyRanges_any _ _ _ _ hr hn).mono ?_
  rintro e w3 ⟨A3, c3, rfl, ho, hb3⟩
  have hr3 := hr.below hb3
  go_wp2_with fail
  refine (CO.out _ hr3.lt).mono ?_
  rintro e w2 ⟨rfl, hb2⟩
  have HB := Lib.hid (show Below w.heap.size w w2 by (repeat' (first | (with_reducible exact Below.refl _ _) | (with_reducible refine bel_alloc ?_ ?_ _) | (with_reducible refine Below.setCell ?_ ?_ _) | (with_reducible refine below_drewN ?_ _) | (with_reducible refine Below.drew ?_) | (with_reducible refine bel_step hb3 ?_ ?_) | (with_reducible refine bel_step hb2 ?_ ?_) | (with_reducible exact Nat.le_refl _) | (with_reducible assumption) | omega | (simp only [World.size_alloc, World.size_setCell, World.size_drew]; omega) | (simp; omega) | (simp; done))))
  replace ho := ho.below hb2
  have hb0 := bst_bd n xs 0
  go_wp2
  go_loopw [10, 27] (fun v10 v27 wr => ∃ k : Nat, k ≤ xs.length ∧ v27 = .int .i64 k ∧ v10 = .int .i64 (bst n xs k) ∧ Below w.heap.size w wr ∧ Below w2.heap.size w2 wr) (fun _ v _ => xs.length - (intOf v).toNat)
  case atStart => exact ⟨0, Nat.zero_le _, rfl, rfl, HB.out, Below.refl _ _⟩
  case round =>
    obtain ⟨k, hk, rfl, rfl, hbr, hbq⟩ := hrel
    have hrr := hr.below hbr
    by_cases hlt : k < xs.length
    · obtain ⟨b3, off3, rfl, -, hx0, hx1⟩ := hrr.pair hlt
      obtain ⟨x1, hx1e⟩ : ∃ x, x = xs[k].1 := ⟨_, rfl⟩
      obtain ⟨x2, hx2e⟩ : ∃ y, y = xs[k].2 := ⟨_, rfl⟩
      rw [← hx1e] at hx0
      rw [← hx2e] at hx1
      have hbb := bst_bd n xs k
      by_cases hge : n ≤ x2
      · have hgb : decide (n ≤ x2) = true := by simp [hge]
        by_cases hneg : bst n xs k < 0
        · have HU := Lib.hid (bst_up hlt (by rw [← hx2e]; exact hge) (.inl hneg))
          have hnb : decide (bst n xs k < 0) = true := by simp [hneg]
          clear hx1e hx2e
          generalize bst n xs k = bb at *
          go_wp2
          go_quiet (fail)
          go_wp2
          go_roundw
          case rel => exact ⟨k + 1, by omega, by go_num, by rw [HU.out], by (repeat' (first | (with_reducible exact Below.refl _ _) | (with_reducible refine bel_alloc ?_ ?_ _) | (with_reducible refine Below.setCell ?_ ?_ _) | (with_reducible refine below_drewN ?_ _) | (with_reducible refine Below.drew ?_) | (with_reducible refine bel_step hbr ?_ ?_) | (with_reducible exact Nat.le_refl _) | (with_reducible assumption) | omega | (simp only [World.size_alloc, World.size_setCell, World.size_drew]; omega) | (simp; omega) | (simp; done))), by (repeat' (first | (with_reducible exact Below.refl _ _) | (with_reducible refine bel_alloc ?_ ?_ _) | (with_reducible refine Below.setCell ?_ ?_ _) | (with_reducible refine below_drewN ?_ _) | (with_reducible refine Below.drew ?_) | (with_reducible refine bel_step hbq ?_ ?_) | (with_reducible exact Nat.le_refl _) | (with_reducible assumption) | omega | (simp only [World.size_alloc, World.size_setCell, World.size_drew]; omega) | (simp; omega) | (simp; done)))⟩
          case measure => simp [intOf]; omega
        · obtain ⟨j, hj⟩ : ∃ j : Nat, bst n xs k = (j : Int) := ⟨(bst n xs k).toNat, by omega⟩
          have hjk : j < k := by omega
          have hjl : j < xs.length := by omega
          obtain ⟨b4, off4, hA4, -, hy0, hy1⟩ := hrr.pair hjl
          obtain ⟨rfl, rfl⟩ : b3 = b4 ∧ off3 = off4 := by injection hA4 with e; injection e with e1 e2; exact ⟨e1, e2⟩
          clear hA4
          have hbl4 := lt_of_cell' hy1
          have hz2 : (xs.getD (bst n xs k).toNat (0, 0)).2 = xs[j].2 := by rw [hj]; simp [List.getElem?_eq_getElem hjl]
          obtain ⟨y2, hy2e⟩ : ∃ y, y = xs[j].2 := ⟨_, rfl⟩
          rw [← hy2e] at hy1 hz2
          have i0 : (0 : Int) ≤ (j : Int) := by omega
          have i1 : (j : Int) < (xs.length : Int) := by omega
          have hnb : decide ((j : Int) < 0) = false := by simp
          by_cases hlt2 : x2 < y2
          · have HU := Lib.hid (bst_up hlt (by rw [← hx2e]; exact hge) (.inr (by rw [hz2, ← hx2e]; exact hlt2)))
            clear hx1e hx2e hz2 hy2e hneg
            rw [hj]
            clear hj hbb
            go_wp2
            go_quiet (fail)
            go_wp2
            go_roundw
            case rel => exact ⟨k + 1, by omega, by go_num, by rw [HU.out], by (repeat' (first | (with_reducible exact Below.refl _ _) | (with_reducible refine bel_alloc ?_ ?_ _) | (with_reducible refine Below.setCell ?_ ?_ _) | (with_reducible refine below_drewN ?_ _) | (with_reducible refine Below.drew ?_) | (with_reducible refine bel_step hbr ?_ ?_) | (with_reducible exact Nat.le_refl _) | (with_reducible assumption) | omega | (simp only [World.size_alloc, World.size_setCell, World.size_drew]; omega) | (simp; omega) | (simp; done))), by (repeat' (first | (with_reducible exact Below.refl _ _) | (with_reducible refine bel_alloc ?_ ?_ _) | (with_reducible refine Below.setCell ?_ ?_ _) | (with_reducible refine below_drewN ?_ _) | (with_reducible refine Below.drew ?_) | (with_reducible refine bel_step hbq ?_ ?_) | (with_reducible exact Nat.le_refl _) | (with_reducible assumption) | omega | (simp only [World.size_alloc, World.size_setCell, World.size_drew]; omega) | (simp; omega) | (simp; done)))⟩
            case measure => simp [intOf]; omega
          · have HU := Lib.hid (bst_no hlt (by rw [← hx2e]; intro h; rw [hz2] at h; omega))
            have hl2 : decide (x2 < y2) = false := by simp [hlt2]
            have HJ := Lib.hid hj
            clear hx1e hx2e hz2 hy2e hneg
            rw [hj]
            clear hj hbb
            go_wp2
            go_quiet (fail)
            go_wp2
            go_roundw
            case rel => exact ⟨k + 1, by omega, by go_num, by rw [HU.out, HJ.out], by (repeat' (first | (with_reducible exact Below.refl _ _) | (with_reducible refine bel_alloc ?_ ?_ _) | (with_reducible refine Below.setCell ?_ ?_ _) | (with_reducible refine below_drewN ?_ _) | (with_reducible refine Below.drew ?_) | (with_reducible refine bel_step hbr ?_ ?_) | (with_reducible exact Nat.le_refl _) | (with_reducible assumption) | omega | (simp only [World.size_alloc, World.size_setCell, World.size_drew]; omega) | (simp; omega) | (simp; done))), by (repeat' (first | (with_reducible exact Below.refl _ _) | (with_reducible refine bel_alloc ?_ ?_ _) | (with_reducible refine Below.setCell ?_ ?_ _) | (with_reducible refine below_drewN ?_ _) | (with_reducible refine Below.drew ?_) | (with_reducible refine bel_step hbq ?_ ?_) | (with_reducible exact Nat.le_refl _) | (with_reducible assumption) | omega | (simp only [World.size_alloc, World.size_setCell, World.size_drew]; omega) | (simp; omega) | (simp; done)))⟩
            case measure => simp [intOf]; omega
      · have HU := Lib.hid (bst_no hlt (by rw [← hx2e]; exact fun h => hge h.1))
        have hg := Lib.hid hge
        have hge2 : (decide (n ≤ x2)) = false := by simp [hge]
        clear hx1e hx2e hge
        go_wp2
        go_quiet (fail)
        go_wp2
        go_roundw
        case rel => exact ⟨k + 1, by omega, by go_num, by rw [HU.out], by (repeat' (first | (with_reducible exact Below.refl _ _) | (with_reducible refine bel_alloc ?_ ?_ _) | (with_reducible refine Below.setCell ?_ ?_ _) | (with_reducible refine below_drewN ?_ _) | (with_reducible refine Below.drew ?_) | (with_reducible refine bel_step hbr ?_ ?_) | (with_reducible exact Nat.le_refl _) | (with_reducible assumption) | omega | (simp only [World.size_alloc, World.size_setCell, World.size_drew]; omega) | (simp; omega) | (simp; done))), by (repeat' (first | (with_reducible exact Below.refl _ _) | (with_reducible refine bel_alloc ?_ ?_ _) | (with_reducible refine Below.setCell ?_ ?_ _) | (with_reducible refine below_drewN ?_ _) | (with_reducible refine Below.drew ?_) | (with_reducible refine bel_step hbq ?_ ?_) | (with_reducible exact Nat.le_refl _) | (with_reducible assumption) | omega | (simp only [World.size_alloc, World.size_setCell, World.size_drew]; omega) | (simp; omega) | (simp; done)))⟩
        case measure => simp [intOf]; omega
    · obtain rfl : k = xs.length := by omega
      rw [H3.out]
      have how := ho.below hbq
      obtain ⟨g, rfl, hg1, hg2⟩ := how.some_ (by omega)
      have hW := how.wr1
      obtain ⟨b3, off3, rfl, -, hx0, hx1⟩ := hrr.pair hjx
      rw [← HU1.out] at hx0
      rw [← HU2.out] at hx1
      have hpl := pv_length xs
      obtain ⟨b', off', hA', hSg, e0⟩ := hW.at_ (k := jj * 2) (pv_at xs hjx).1
      obtain ⟨rfl, rfl⟩ : g = b' ∧ 0 = off' := by injection hA' with e; injection e with e1 e2; exact ⟨e1, e2⟩
      clear hA'
      obtain ⟨b', off', hA', -, e1⟩ := hW.at_ (k := jj * 2 + 1) (pv_at xs hjx).2
      obtain ⟨rfl, rfl⟩ : g = b' ∧ 0 = off' := by injection hA' with e; injection e with e1 e2; exact ⟨e1, e2⟩
      clear hA'
      rw [← HU1.out] at e0
      rw [← HU2.out] at e1
      obtain ⟨c0, f0⟩ := e0
      obtain ⟨c1, f1⟩ := e1
      rw [Nat.zero_add] at c0 f0
      rw [Nat.zero_add] at c1 f1
      have i0 : (0 : Int) ≤ (jj : Int) := by omega
      have i1 : (jj : Int) < (xs.length : Int) := by omega
      have hin := HIN.out
      have hge := HGE.out
      have hcap := how.cap
      unfold maxLen at hcap
      have hS0 := Wr.set (k := jj * 2) hW rfl (.int .i64 (u1 + n))
      have hS1 := Wr.set (k := jj * 2 + 1) hS0 rfl (.int .i64 (u2 - n))
      rw [← pv_set2, Nat.zero_add, Nat.zero_add] at hS1
      have hSO : OutS (fun b => ∃ o, some (⟨g, 0, none⟩ : Addr) = some ⟨b, o, none⟩) wr ((wr.setCell ⟨g, jj * 2, none⟩ (.int .i64 (u1 + n))).setCell ⟨g, jj * 2 + 1, none⟩ (.int .i64 (u2 - n))) := (OutS.set wr _ ⟨0, rfl⟩).trans (OutS.set _ _ ⟨0, rfl⟩)
      have HS1 := Lib.hid hS1
      have HSO := Lib.hid hSO
      clear hS0 hS1 hSO hW
      by_cases hz : u2 = n
      · have hzz : ((u2 - n) == 0) = true := by simp; omega
        have HZ := Lib.hid hz
        obtain ⟨m, hm⟩ : ∃ m, xs.length = jj + 1 + m := ⟨xs.length - (jj + 1), by omega⟩
        have HD := Lib.hid (fun W S (h : Wr W S _ _) => delete_r (S := S) g c3 xs.length jj m (xs.set jj (u1 + n, u2 - n)) W h (by simp) hm hcap.1 hcap.2)
        have HM := Lib.hid hm
        clear hz hm
        go_wp2_with fail
        refine (HD.out _ _ HS1.out).mono ?_
        rintro e w5 ⟨rfl, hW5, hO5⟩
        go_wp2
        go_ret3
        have e1 := tkL_eq (n := n) hjx (by rw [← HU2.out]; exact HZ.out)
        have e2 : (xs.set jj (u1 + n, u2 - n)).take jj ++ (xs.set jj (u1 + n, u2 - n)).drop (jj + 1) = xs.take jj ++ xs.drop (jj + 1) := by
          rw [List.take_set_of_le (Nat.le_refl _), List.drop_set_of_lt (by omega)]
        rw [e2, ← e1] at hW5
        obtain ⟨S, hWn, hN⟩ := hW5.new w.heap.size (fun b h => by obtain ⟨o, ho⟩ := h; injection ho with ho; injection ho with ho; omega)
        have hml := HM.out
        refine ⟨_, c3, S, ?_, hWn, hN, bel_outS (HSO.out.trans hO5) (fun b h => by obtain ⟨o, ho⟩ := h; injection ho with ho; injection ho with ho; omega) hbr (Nat.le_refl _), by rw [e1, List.length_append, List.length_take, List.length_drop]; unfold maxLen; omega⟩
        have e3 : (tkL n xs jj).length = jj + m := by rw [e1]; simp; omega
        rw [e3, ← HU1.out]
        try rfl
      · have hzz : ((u2 - n) == 0) = false := by simp; omega
        go_wp2
        go_ret3
        have e1 := tkL_ne hjx (n := n) (by rw [← HU2.out]; exact hz)
        have hW5 := HS1.out
        rw [← HU1.out, ← HU2.out] at e1
        rw [← e1] at hW5
        obtain ⟨S, hWn, hN⟩ := hW5.new w.heap.size (fun b h => by obtain ⟨o, ho⟩ := h; injection ho with ho; injection ho with ho; omega)
        refine ⟨_, c3, S, ?_, hWn, hN, bel_outS (HSO.out) (fun b h => by obtain ⟨o, ho⟩ := h; injection ho with ho; injection ho with ho; omega) hbr (Nat.le_refl _), by rw [e1, List.length_set]; unfold maxLen; omega⟩
        have e3 : (tkL n xs jj).length = xs.length := by rw [e1]; simp
        rw [e3, ← HU1.out]
        try rfl
end Go.Proofs.Ytfdpplamebmdhaa
