/- RangeTake, of the reference, where it takes something. -/
import Derived.Test.YtfdpplamebmdhaaRangeTkU
import Derived.Test.YtfdpplamebmdhaaRangeU2
namespace Go.Proofs.Ytfdpplamebmdhaa
open Go.ChangeShapes Go.WideShapes Go.ChangeAt Go.RowKit
set_option linter.unusedVariables false
set_option linter.unusedSimpArgs false

set_option maxHeartbeats 8000000 in
set_option maxRecDepth 100000 in
theorem rangeTake_s_yes (pages : Int) (A : Option Addr) (c : Nat) (xs : List Rg) (n : Int) (w : World) {B : Nat} (hr : Rd w B A (pv xs)) (hn : xs.length ≤ 1048576) (hcx : xs.length ≤ c ∧ c ≤ 9223372036854775807) (hpg : -9223372036854775808 ≤ pages ∧ pages ≤ 9223372036854775807) (h1 : rOkB pages xs = true) (h2 : 1 ≤ n) (jj : Nat) (h3 : bst n xs xs.length = (jj : Int)) (hjx : jj < xs.length) :
    Calls Try.prog 27 #[.int .i64 pages, .slice A xs.length c, .int .i64 n] w (MadeRT (tkL n xs jj) xs[jj].1 true w) := by
  obtain ⟨hall, hp1, hp32⟩ := rOkB_facts h1
  have hin := rInB_yes (okAt_in hjx (hall jj hjx))
  have hge0 := bst_ge n xs xs.length (by omega)
  rw [h3] at hge0
  have hge1 : n ≤ xs[jj].2 := by simpa [List.getElem?_eq_getElem hjx] using hge0
  obtain ⟨u1, hu1⟩ : ∃ u, u = xs[jj].1 := ⟨_, rfl⟩
  obtain ⟨u2, hu2⟩ : ∃ u, u = xs[jj].2 := ⟨_, rfl⟩
  rw [← hu2, ← hu1] at hin
  rw [← hu2] at hge1
  have HU1 := Lib.hid hu1
  have HU2 := Lib.hid hu2
  have HIN := Lib.hid hin
  have HGE := Lib.hid hge1
  have H3 := Lib.hid h3
  clear hall hin hge0 hge1 hu1 hu2 h3
  have CO := fun W (h : Rd W W.heap.size A (pv xs)) => rangesOk_s pages A c xs W h hn hpg
  rw [h1] at CO
  have CO := Lib.hid CO
  obtain ⟨it, hit, iz0, iz1, iz2⟩ := info_parts infoRange
  have HL := Lib.hid (pv_length xs)
  go_enter Try.func27, Try.ntmps27
  go_wp2_with (at_builtin; refine wpList_append_new rfl (.tmp 13) (.tmp 14) _ rfl 42 it (.agg #[.int .i64 0, .int .i64 0]) 2 16 Try.underlying25 hit iz0 iz1 iz2 rfl (by omega) w.heap.size rfl (own_lit rfl) A xs.length c (pv xs) rfl HL.out (hr.alloc _) (pv_one _) (by unfold maxLen; omega) (by omega) (by simp) ?_; intro A3 c3 w3 ho hS3 hA3)
  have hr3 := (hr.lt.alloc (.cells #[] 42)).outS hS3 (fun b hb => by rw [hb]; omega)
  have hb3 : Below w.heap.size w w3 := bel_outS hS3 (fun b hb => by rw [hb]; omega) (by (repeat' (first | (with_reducible exact Below.refl _ _) | (with_reducible refine bel_alloc ?_ ?_ _) | (with_reducible refine Below.setCell ?_ ?_ _) | (with_reducible refine below_drewN ?_ _) | (with_reducible refine Below.drew ?_) | (with_reducible exact Nat.le_refl _) | (with_reducible assumption) | omega | (simp only [World.size_alloc, World.size_setCell, World.size_drew]; omega) | (simp; omega) | (simp; done)))) (Nat.le_refl _)
  clear hS3 hA3
  refine (CO.out _ hr3.lt).mono ?_
  rintro e w2 ⟨rfl, hb2⟩
  have HB := Lib.hid (show Below w.heap.size w w2 by (repeat' (first | (with_reducible exact Below.refl _ _) | (with_reducible refine bel_alloc ?_ ?_ _) | (with_reducible refine Below.setCell ?_ ?_ _) | (with_reducible refine below_drewN ?_ _) | (with_reducible refine Below.drew ?_) | (with_reducible refine bel_step hb3 ?_ ?_) | (with_reducible refine bel_step hb2 ?_ ?_) | (with_reducible exact Nat.le_refl _) | (with_reducible assumption) | omega | (simp only [World.size_alloc, World.size_setCell, World.size_drew]; omega) | (simp; omega) | (simp; done))))
  replace ho := ho.below hb2
  have hb0 := bst_bd n xs 0
  go_wp2
  go_loopw [10, 11] (fun v10 v27 wr => ∃ k : Nat, k ≤ xs.length ∧ v27 = .int .i64 k ∧ v10 = .int .i64 (bst n xs k) ∧ Below w.heap.size w wr ∧ Below w2.heap.size w2 wr) (fun _ v _ => xs.length - (intOf v).toNat)
  case atStart => exact ⟨0, Nat.zero_le _, rfl, rfl, HB.out, Below.refl _ _⟩
  case round =>
    obtain ⟨k, hk, rfl, rfl, hbr, hbq⟩ := hrel
    have hrr := hr.below hbr
    by_cases hlt : k < xs.length
    · obtain ⟨b3, off3, rfl, -, hx0, hx1⟩ := hrr.pair hlt
      have i2 : (0 : Int) ≤ (k : Int) := by omega
      have i3 : (k : Int) < (xs.length : Int) := by omega
      obtain ⟨x1, hx1e⟩ : ∃ x, x = xs[k].1 := ⟨_, rfl⟩
      obtain ⟨x2, hx2e⟩ : ∃ y, y = xs[k].2 := ⟨_, rfl⟩
      rw [← hx1e] at hx0
      rw [← hx2e] at hx1
      have hbb := bst_bd n xs k
      by_cases hge : n ≤ x2
      · have hgb : decide (n ≤ x2) = true := by simp [hge]
        by_cases hneg : bst n xs k < 0
        · have HU := Lib.hid (bst_up hlt (by rw [← hx2e]; exact hge) (.inl hneg))
          have hnb : decide (bst n xs k < 0) = true := by simp [hneg]
          clear hx1e hx2e
          generalize bst n xs k = bb at *
          go_wp2
          go_quiet (fail)
          go_wp2
          go_roundw
          case rel => exact ⟨k + 1, by omega, by go_num, by rw [HU.out], by (repeat' (first | (with_reducible exact Below.refl _ _) | (with_reducible refine bel_alloc ?_ ?_ _) | (with_reducible refine Below.setCell ?_ ?_ _) | (with_reducible refine below_drewN ?_ _) | (with_reducible refine Below.drew ?_) | (with_reducible refine bel_step hbr ?_ ?_) | (with_reducible exact Nat.le_refl _) | (with_reducible assumption) | omega | (simp only [World.size_alloc, World.size_setCell, World.size_drew]; omega) | (simp; omega) | (simp; done))), by (repeat' (first | (with_reducible exact Below.refl _ _) | (with_reducible refine bel_alloc ?_ ?_ _) | (with_reducible refine Below.setCell ?_ ?_ _) | (with_reducible refine below_drewN ?_ _) | (with_reducible refine Below.drew ?_) | (with_reducible refine bel_step hbq ?_ ?_) | (with_reducible exact Nat.le_refl _) | (with_reducible assumption) | omega | (simp only [World.size_alloc, World.size_setCell, World.size_drew]; omega) | (simp; omega) | (simp; done)))⟩
          case measure => simp [intOf]; omega
        · obtain ⟨j, hj⟩ : ∃ j : Nat, bst n xs k = (j : Int) := ⟨(bst n xs k).toNat, by omega⟩
          have hjk : j < k := by omega
          have hjl : j < xs.length := by omega
          obtain ⟨b4, off4, hA4, -, hy0, hy1⟩ := hrr.pair hjl
          obtain ⟨rfl, rfl⟩ : b3 = b4 ∧ off3 = off4 := by injection hA4 with e; injection e with e1 e2; exact ⟨e1, e2⟩
          clear hA4
          have hbl4 := lt_of_cell' hy1
          have hz2 : (xs.getD (bst n xs k).toNat (0, 0)).2 = xs[j].2 := by rw [hj]; simp [List.getElem?_eq_getElem hjl]
          obtain ⟨y2, hy2e⟩ : ∃ y, y = xs[j].2 := ⟨_, rfl⟩
          rw [← hy2e] at hy1 hz2
          have i0 : (0 : Int) ≤ (j : Int) := by omega
          have i1 : (j : Int) < (xs.length : Int) := by omega
          have hnb : decide ((j : Int) < 0) = false := by simp
          by_cases hlt2 : x2 < y2
          · have HU := Lib.hid (bst_up hlt (by rw [← hx2e]; exact hge) (.inr (by rw [hz2, ← hx2e]; exact hlt2)))
            clear hx1e hx2e hz2 hy2e hneg
            rw [hj]
            clear hj hbb
            go_wp2
            go_quiet (fail)
            go_wp2
            go_roundw
            case rel => exact ⟨k + 1, by omega, by go_num, by rw [HU.out], by (repeat' (first | (with_reducible exact Below.refl _ _) | (with_reducible refine bel_alloc ?_ ?_ _) | (with_reducible refine Below.setCell ?_ ?_ _) | (with_reducible refine below_drewN ?_ _) | (with_reducible refine Below.drew ?_) | (with_reducible refine bel_step hbr ?_ ?_) | (with_reducible exact Nat.le_refl _) | (with_reducible assumption) | omega | (simp only [World.size_alloc, World.size_setCell, World.size_drew]; omega) | (simp; omega) | (simp; done))), by (repeat' (first | (with_reducible exact Below.refl _ _) | (with_reducible refine bel_alloc ?_ ?_ _) | (with_reducible refine Below.setCell ?_ ?_ _) | (with_reducible refine below_drewN ?_ _) | (with_reducible refine Below.drew ?_) | (with_reducible refine bel_step hbq ?_ ?_) | (with_reducible exact Nat.le_refl _) | (with_reducible assumption) | omega | (simp only [World.size_alloc, World.size_setCell, World.size_drew]; omega) | (simp; omega) | (simp; done)))⟩
            case measure => simp [intOf]; omega
          · have HU := Lib.hid (bst_no hlt (by rw [← hx2e]; intro h; rw [hz2] at h; omega))
            have hl2 : decide (x2 < y2) = false := by simp [hlt2]
            have HJ := Lib.hid hj
            clear hx1e hx2e hz2 hy2e hneg
            rw [hj]
            clear hj hbb
            go_wp2
            go_quiet (fail)
            go_wp2
            go_roundw
            case rel => exact ⟨k + 1, by omega, by go_num, by rw [HU.out, HJ.out], by (repeat' (first | (with_reducible exact Below.refl _ _) | (with_reducible refine bel_alloc ?_ ?_ _) | (with_reducible refine Below.setCell ?_ ?_ _) | (with_reducible refine below_drewN ?_ _) | (with_reducible refine Below.drew ?_) | (with_reducible refine bel_step hbr ?_ ?_) | (with_reducible exact Nat.le_refl _) | (with_reducible assumption) | omega | (simp only [World.size_alloc, World.size_setCell, World.size_drew]; omega) | (simp; omega) | (simp; done))), by (repeat' (first | (with_reducible exact Below.refl _ _) | (with_reducible refine bel_alloc ?_ ?_ _) | (with_reducible refine Below.setCell ?_ ?_ _) | (with_reducible refine below_drewN ?_ _) | (with_reducible refine Below.drew ?_) | (with_reducible refine bel_step hbq ?_ ?_) | (with_reducible exact Nat.le_refl _) | (with_reducible assumption) | omega | (simp only [World.size_alloc, World.size_setCell, World.size_drew]; omega) | (simp; omega) | (simp; done)))⟩
            case measure => simp [intOf]; omega
      · have HU := Lib.hid (bst_no hlt (by rw [← hx2e]; exact fun h => hge h.1))
        have hg := Lib.hid hge
        have hge2 : (decide (n ≤ x2)) = false := by simp [hge]
        clear hx1e hx2e hge
        go_wp2
        go_quiet (fail)
        go_wp2
        go_roundw
        case rel => exact ⟨k + 1, by omega, by go_num, by rw [HU.out], by (repeat' (first | (with_reducible exact Below.refl _ _) | (with_reducible refine bel_alloc ?_ ?_ _) | (with_reducible refine Below.setCell ?_ ?_ _) | (with_reducible refine below_drewN ?_ _) | (with_reducible refine Below.drew ?_) | (with_reducible refine bel_step hbr ?_ ?_) | (with_reducible exact Nat.le_refl _) | (with_reducible assumption) | omega | (simp only [World.size_alloc, World.size_setCell, World.size_drew]; omega) | (simp; omega) | (simp; done))), by (repeat' (first | (with_reducible exact Below.refl _ _) | (with_reducible refine bel_alloc ?_ ?_ _) | (with_reducible refine Below.setCell ?_ ?_ _) | (with_reducible refine below_drewN ?_ _) | (with_reducible refine Below.drew ?_) | (with_reducible refine bel_step hbq ?_ ?_) | (with_reducible exact Nat.le_refl _) | (with_reducible assumption) | omega | (simp only [World.size_alloc, World.size_setCell, World.size_drew]; omega) | (simp; omega) | (simp; done)))⟩
        case measure => simp [intOf]; omega
    · obtain rfl : k = xs.length := by omega
      rw [H3.out]
      have how := ho.below hbq
      obtain ⟨g, rfl, hg1, hg2⟩ := how.some_ (by omega)
      have hW := how.wr1
      obtain ⟨b3, off3, rfl, -, hx0, hx1⟩ := hrr.pair hjx
      rw [← HU1.out] at hx0
      rw [← HU2.out] at hx1
      have hpl := pv_length xs
      obtain ⟨b', off', hA', hSg, e0⟩ := hW.at_ (k := jj * 2) (pv_at xs hjx).1
      obtain ⟨rfl, rfl⟩ : g = b' ∧ 0 = off' := by injection hA' with e; injection e with e1 e2; exact ⟨e1, e2⟩
      clear hA'
      obtain ⟨b', off', hA', -, e1⟩ := hW.at_ (k := jj * 2 + 1) (pv_at xs hjx).2
      obtain ⟨rfl, rfl⟩ : g = b' ∧ 0 = off' := by injection hA' with e; injection e with e1 e2; exact ⟨e1, e2⟩
      clear hA'
      rw [← HU1.out] at e0
      rw [← HU2.out] at e1
      obtain ⟨c0, f0⟩ := e0
      obtain ⟨c1, f1⟩ := e1
      rw [Nat.zero_add] at c0 f0
      rw [Nat.zero_add] at c1 f1
      have i0 : (0 : Int) ≤ (jj : Int) := by omega
      have i1 : (jj : Int) < (xs.length : Int) := by omega
      have hin := HIN.out
      have hge := HGE.out
      have hcap := how.cap
      unfold maxLen at hcap
      have hS0 := Wr.set (k := jj * 2) hW rfl (.int .i64 (u1 + n))
      have hS1 := Wr.set (k := jj * 2 + 1) hS0 rfl (.int .i64 (u2 - n))
      rw [← pv_set2, Nat.zero_add, Nat.zero_add] at hS1
      have hSO : OutS (fun b => ∃ o, some (⟨g, 0, none⟩ : Addr) = some ⟨b, o, none⟩) wr ((wr.setCell ⟨g, jj * 2, none⟩ (.int .i64 (u1 + n))).setCell ⟨g, jj * 2 + 1, none⟩ (.int .i64 (u2 - n))) := (OutS.set wr _ ⟨0, rfl⟩).trans (OutS.set _ _ ⟨0, rfl⟩)
      have HS1 := Lib.hid hS1
      have HSO := Lib.hid hSO
      clear hS0 hS1 hSO hW
      by_cases hz : u2 = n
      · have hzz : (u2 == n) = true := by simp; omega
        have HZ := Lib.hid hz
        obtain ⟨m, hm⟩ : ∃ m, xs.length = jj + 1 + m := ⟨xs.length - (jj + 1), by omega⟩
        obtain ⟨A2, hA2, hr2⟩ : ∃ A2, (if c = jj + 1 then some (⟨b3, off3, none⟩ : Addr) else some ⟨b3, off3 + (jj + 1) * 2, none⟩) = A2 ∧ Hid (Rd wr wr.heap.size A2 (pv (xs.drop (jj + 1)))) := by
          refine ⟨_, rfl, ?_⟩
          by_cases h : c = jj + 1
          · have : xs.drop (jj + 1) = [] := List.drop_eq_nil_of_le (by omega)
            rw [this]
            exact Rd.nil
          · rw [if_neg h]
            have h5 : pv xs = (pv xs).take ((jj + 1) * 2) ++ pv (xs.drop (jj + 1)) := by rw [pv_dr, List.take_append_drop]
            have h6 := hrr.lt
            rw [h5] at h6
            have h7 := h6.post
            rw [List.length_take, pv_length, Nat.min_eq_left (by omega)] at h7
            exact h7
        have hr3 : Hid (Rd wr wr.heap.size (some ⟨b3, off3, none⟩) (pv (xs.take jj))) := by
          have h5 : pv xs = pv (xs.take jj) ++ (pv xs).drop (jj * 2) := by rw [pv_tk, List.take_append_drop]
          have h6 := hrr.lt
          rw [h5] at h6
          exact h6.pre
        have hl3 := Lib.hid (show (pv (xs.take jj)).length = jj * 2 by rw [pv_length, List.length_take, Nat.min_eq_left (by omega)])
        have hl2 := Lib.hid (show (pv (xs.drop (jj + 1))).length = m * 2 by rw [pv_length, List.length_drop]; omega)
        have hwr1 : IntKind.i64.wrap ((jj : Int) + 1) = (jj : Int) + 1 := by rw [IntKind.wrap_i64]; omega
        have hp0 : (0 : Int) ≤ (jj : Int) + 1 := by omega
        have hp1 : (jj : Int) + 1 ≤ (xs.length : Int) := by omega
        have hp2 : ((jj : Int) + 1).toNat = jj + 1 := by omega
        have hp4 : (jj : Int) ≤ (c : Int) := by omega
        have hjc : jj ≤ c := by omega
        have hn1 : xs.length - (jj + 1) = m := by omega
        have hmm : jj + m ≤ 1048576 := by omega
        have HM := Lib.hid hm
        clear hz hm
        go_wp2_with fail
        go_region_law (first | (refine step_append_new (by rfl) (.tmp 71) (.tmp 74) _ (by rfl) 42 it (.agg #[.int .i64 0, .int .i64 0]) 2 16 Try.underlying25 hit iz0 iz1 iz2 (by rfl) (by omega) wr.heap.size (by rfl) (own_lit (w := wr) (by rfl)) (some ⟨b3, off3, none⟩) jj c (pv (xs.take jj)) (by simp [Act.eval, Act.put]) hl3.out (hr3.out.alloc _) (pv_one _) (by unfold maxLen; omega) (by omega) (by simp) ?_; intro A5 c5 w5 ho5 hS5 hA5; replace ho5 := ho5.1; have hr5 := (Rd.drew (hr2.out.alloc (.cells #[] 42))).outS hS5 (fun b hb => by rw [hb]; exact Nat.le_refl _); have hz5 := hS5.size; (try simp only [World.size_alloc, World.size_drew] at hz5)) | (refine step_append_ow (by rfl) (.tmp 75) (.tmp 79) _ (by rfl) 42 it (.agg #[.int .i64 0, .int .i64 0]) 2 16 Try.underlying25 hit iz0 iz1 iz2 (by rfl) (by omega) wr.heap.size A5 jj c5 (pv (xs.take jj)) (by simp [Act.eval, Act.put]) ho5 A2 m (c - (jj + 1)) (pv (xs.drop (jj + 1))) (by simp [Act.eval, Act.put]) hl2.out hr5 (pv_one _) (by unfold maxLen; omega) (by omega) (by omega) ?_; intro A6 c6 w6 hO6 hS6 hA6) | fail)
        all_goals
          go_wp2
          go_ret3
          have e1 := tkL_eq (n := n) hjx (by rw [← HU2.out]; exact HZ.out)
          rw [← pv_app, ← e1] at hO6
          have e3 : jj + m = (tkL n xs jj).length := by have := HM.out; rw [e1]; simp; omega
          rw [← HU1.out]
          exact made_rt e3 hO6 hbr.size (bel_outS hS6 (fun b h => by obtain ⟨o, ho⟩ := h; have h5 := hA5 b o ho; (try simp only [World.size_alloc, World.size_drew] at h5); have h6 := hbr.size; omega) (bel_outS hS5 (fun b hb => by rw [hb]; exact hbr.size) (by (repeat' (first | (with_reducible exact Below.refl _ _) | (with_reducible refine bel_alloc ?_ ?_ _) | (with_reducible refine Below.setCell ?_ ?_ _) | (with_reducible refine below_drewN ?_ _) | (with_reducible refine Below.drew ?_) | (with_reducible refine bel_step hbr ?_ ?_) | (with_reducible exact Nat.le_refl _) | (with_reducible assumption) | omega | (simp only [World.size_alloc, World.size_setCell, World.size_drew]; omega) | (simp; omega) | (simp; done)))) (Nat.le_refl _)) (Nat.le_refl _))
      · have hzz : (u2 == n) = false := by simp; omega
        go_wp2
        go_ret3
        have e1 := tkL_ne hjx (n := n) (by rw [← HU2.out]; exact hz)
        have hW5 := HS1.out
        rw [← HU1.out, ← HU2.out] at e1
        rw [← e1] at hW5
        obtain ⟨S, hWn, hN⟩ := hW5.new w.heap.size (fun b h => by obtain ⟨o, ho⟩ := h; injection ho with ho; injection ho with ho; omega)
        refine ⟨_, c3, S, ?_, hWn, hN, bel_outS (HSO.out) (fun b h => by obtain ⟨o, ho⟩ := h; injection ho with ho; injection ho with ho; omega) hbr (Nat.le_refl _), by rw [e1, List.length_set]; unfold maxLen; omega⟩
        have e3 : (tkL n xs jj).length = xs.length := by rw [e1]; simp
        rw [e3, ← HU1.out]
        try rfl
end Go.Proofs.Ytfdpplamebmdhaa
