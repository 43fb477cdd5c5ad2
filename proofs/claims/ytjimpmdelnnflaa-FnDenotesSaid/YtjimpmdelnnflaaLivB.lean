/- LiveAddrs of the program. -/
import Derived.Test.YtjimpmdelnnflaaLivA
import Derived.Test.YtjimpmdelnnflaaSrtI
namespace Go.Proofs.Ytjimpmdelnnflaa
open Go.ChangeShapes Go.WideShapes Go.ChangeAt Go.RowKit
set_option linter.unusedVariables false
set_option linter.unusedSimpArgs false

theorem liveAddrs_i_no (A A' : Option Addr) (c c' : Nat) (xs ys : List T3) (w : World) {B B' : Nat} (hr : Rd w B A (tv xs)) (hs : Rd w B' A' (tv ys)) (hn : xs.length ≤ 1048576) (hm : ys.length ≤ 1048576) (hl : layOk xs ys = false) :
    Calls Try.prog 14 #[.slice A xs.length c, .slice A' ys.length c'] w (MadeIntSN (liveS xs ys) w) := by
  have HR := Lib.hid (show liveS xs ys = [] by simp [liveS, hl])
  have HLAY := Lib.hid (layoutOk_i A A' c c' xs ys w hr hs hn hm false hl)
  clear hl
  go_enter Try.func14, Try.ntmps14
  go_wp2_with fail
  refine (HLAY.out).mono ?_
  rintro e w1 ⟨rfl, hb1⟩
  go_wp2
  rw [HR.out]
  refine bodyPost_ret (v := .slice none 0 0) (by simp [results, Try.results14, go_sem]) rfl (made_nil _ _ ?_)
  (repeat' (first | (with_reducible exact Below.refl _ _) | (with_reducible refine bel_alloc ?_ ?_ _) | (with_reducible refine Below.setCell ?_ ?_ _) | (with_reducible refine below_drewN ?_ _) | (with_reducible refine Below.drew ?_) | (with_reducible refine bel_step hb1 ?_ ?_) | (with_reducible exact Nat.le_refl _) | (with_reducible assumption) | omega | (simp only [World.size_alloc, World.size_setCell, World.size_drew]; omega) | (simp; omega) | (simp; done)))
set_option maxRecDepth 100000 in
set_option maxHeartbeats 8000000 in
theorem liveAddrs_i_yes (A A' : Option Addr) (c c' : Nat) (xs ys : List T3) (w : World) {B B' : Nat} (hr : Rd w B A (tv xs)) (hs : Rd w B' A' (tv ys)) (hn : xs.length ≤ 1048576) (hm : ys.length ≤ 1048576) (hl : layOk xs ys = true) :
    Calls Try.prog 14 #[.slice A xs.length c, .slice A' ys.length c'] w (MadeIntSN (liveS xs ys) w) := by
  replace hr := hr.lt
  replace hs := hs.lt
  have HR := Lib.hid (show liveS xs ys = srt (lsA xs xs.length ++ lsB ys ys.length) by simp [liveS, hl])
  have HLAY := Lib.hid (layoutOk_i A A' c c' xs ys w hr hs hn hm true hl)
  have HF := Lib.hid (lay_facts hl)
  clear hl
  obtain ⟨it, hit, iz0, iz1, iz2⟩ := info_parts infoInt
  go_enter Try.func14, Try.ntmps14
  go_wp2_with fail
  refine (HLAY.out).mono ?_
  rintro e w1 ⟨rfl, hb1⟩
  have hO0 := own_lit (w := w1) (g := w1.heap.size) (e := 3) (size := 1) rfl
  have hz1 := hb1.size
  replace hr := hr.below hb1
  replace hs := hs.below hb1
  go_wp2
  go_loopw [5, 18] (fun u v wr => ∃ (k : Nat) (A2 : Option Addr) (n2 c2 : Nat), k ≤ xs.length ∧ v = .int .i64 k ∧ u = .slice A2 n2 c2 ∧ n2 = (lsA xs k).length ∧ wr.ownsRow w1.heap.size 3 1 (.slice A2 n2 c2) n2 (iv (lsA xs k)) ∧ Som A2 ∧ Below w1.heap.size w1 wr) (fun _ v _ => xs.length - (intOf v).toNat)
  case atStart => exact ⟨0, some ⟨w1.heap.size, 0, none⟩, 0, 0, Nat.zero_le _, rfl, rfl, rfl, hO0, ⟨_, rfl⟩, by (repeat' (first | (with_reducible exact Below.refl _ _) | (with_reducible refine bel_alloc ?_ ?_ _) | (with_reducible refine Below.setCell ?_ ?_ _) | (with_reducible refine below_drewN ?_ _) | (with_reducible refine Below.drew ?_) | (with_reducible exact Nat.le_refl _) | (with_reducible assumption) | omega | (simp only [World.size_alloc, World.size_setCell, World.size_drew]; omega) | (simp; omega) | (simp; done)))⟩
  case round =>
    obtain ⟨k, A2, n2, c2, hk, rfl, rfl, hn2, hown, hsm, hbr⟩ := hrel
    have hll := lsA_len xs k
    rw [← hn2] at hll
    have HN2 := Lib.hid hn2
    clear hn2 hO0
    obtain ⟨wx, hwx⟩ : ∃ wx : World, wx = wr := ⟨_, rfl⟩
    subst hwx
    by_cases hlt : k < xs.length
    · obtain ⟨b, off, rfl, -, hc0, hc1, hc2⟩ := (hr.below hbr).trip hlt
      have HSU := Lib.hid (lsA_succ hlt)
      have hx := HF.out.1 _ (List.getElem_mem hlt)
      have HSP := Lib.hid (fun j : Nat => spI_succ xs[k] j)
      have HSN := Lib.hid (fun j : Nat => spI_len xs[k] j)
      have HSS := Lib.hid (show spI xs[k] (sl xs[k].2.1).toNat = spL xs[k] from rfl)
      have HS0 := Lib.hid (show spI xs[k] 0 = [] from rfl)
      generalize spL xs[k] = sl1 at *
      generalize spI xs[k] = sp at *
      have hxs : spOk xs[k].1 xs[k].2.1 xs[k].2.2 = true := hx
      clear hx
      generalize xs[k].1 = x1 at *
      generalize xs[k].2.1 = x2 at *
      generalize xs[k].2.2 = x3 at *
      have HAD := Lib.hid (fun (i : Int) W h0 h1 => spanAddr_i x1 x2 x3 i W hxs h0 h1)
      have hxo := spOk_yes hxs
      have HCB := Lib.hid (fun (i : Int) (h0 : 0 ≤ i) (h1 : i < sl x2) => cs_sl hxo.2.1 h0 h1)
      have HSL := Lib.hid (fun W => slotsOf_i x2 W)
      have HHS := Lib.hid (fun i W => hasSlot_i x3 i W)
      have hsb := slBd x2
      clear hxs hxo
      generalize sl x2 = s at *
      generalize cs x2 = m at *
      generalize hasS x3 = hs3 at *
      generalize lsA xs k = la at *
      have HLK := Lib.hid (show lsA xs (k + 1) = la ++ sl1 from HSU.out)
      obtain ⟨N, hN⟩ : ∃ N : Nat, (N : Int) = s := ⟨s.toNat, by omega⟩
      have HNN := Lib.hid (show s.toNat = N by omega)
      clear HSU
      have hat : ¬ At A2 wx.heap.size := fun h => by have := (own_lo' hown h).2; omega
      have hzx := hbr.size
      go_wp2
      go_loopw [5, 8] (fun u v wr => ∃ (j : Nat) (A3 : Option Addr) (n3 c3 : Nat), j ≤ N ∧ v = .int .i64 j ∧ u = .slice A3 n3 c3 ∧ n3 = (la ++ sp j).length ∧ wr.ownsRow w1.heap.size 3 1 (.slice A3 n3 c3) n3 (iv (la ++ sp j)) ∧ Som A3 ∧ ¬ At A3 wx.heap.size ∧ wr.cell? ⟨wx.heap.size, 0, none⟩ = some (.int .i64 x1) ∧ wr.cell? ⟨wx.heap.size, 1, none⟩ = some (.int .i64 x2) ∧ wr.cell? ⟨wx.heap.size, 2, none⟩ = some (.int .i64 x3) ∧ Below w1.heap.size w1 wr) (fun _ v _ => N - (intOf v).toNat)
      case atStart =>
        refine ⟨0, A2, n2, c2, Nat.zero_le _, rfl, rfl, by rw [HS0.out, HN2.out]; simp, ?_, hsm, hat, by simp [go_sem], by simp [go_sem], by simp [go_sem], by (repeat' (first | (with_reducible exact Below.refl _ _) | (with_reducible refine bel_alloc ?_ ?_ _) | (with_reducible refine Below.setCell ?_ ?_ _) | (with_reducible refine below_drewN ?_ _) | (with_reducible refine Below.drew ?_) | (with_reducible refine bel_step hbr ?_ ?_) | (with_reducible exact Nat.le_refl _) | (with_reducible assumption) | omega | (simp only [World.size_alloc, World.size_setCell, World.size_drew]; omega) | (simp; omega) | (simp; done)))⟩
        rw [HS0.out, List.append_nil]
        exact own_below' hown (by (repeat' (first | (with_reducible exact Below.refl _ _) | (with_reducible refine bel_alloc ?_ ?_ _) | (with_reducible refine Below.setCell ?_ ?_ _) | (with_reducible refine below_drewN ?_ _) | (with_reducible refine Below.drew ?_) | (with_reducible exact Nat.le_refl _) | (with_reducible assumption) | omega | (simp only [World.size_alloc, World.size_setCell, World.size_drew]; omega) | (simp; omega) | (simp; done))))
      case round =>
        obtain ⟨j, A3, n3, c3, hj, rfl, rfl, hn3, hown3, hsm3, hat3, q0, q1, q2, hb3⟩ := hrel
        have hl3 : n3 ≤ n2 + j := by rw [hn3, List.length_append, ← HN2.out]; have := HSN.out j; omega
        have HN3 := Lib.hid hn3
        clear hn3 hown hat
        have hlq := lt_of_cell' q0
        by_cases hlj : j < N
        · have hjs : (j : Int) < s := by omega
          have hkm := HCB.out j (by omega) hjs
          cases hv : hs3 (j : Int) with
          | true =>
            have HV := Lib.hid (fun W => (show Calls Try.prog 40 #[.int .i64 x3, .int .i64 (j : Int)] W fun e w' => e = .returned (.bool true) ∧ w' = W by have := HHS.out (j : Int) W; rwa [hv] at this))
            have HNX := Lib.hid (show sp (j + 1) = sp j ++ [x1 * 16 + (j : Int) * m] by rw [HSP.out, hv]; rfl)
            clear hv
            go_wp2_with (first | (go_at_call 39; refine (HSL.out _).mono ?_; rintro e wr ⟨rfl, rfl⟩) | (go_at_call 40; refine (HV.out _).mono ?_; rintro e wr ⟨rfl, rfl⟩) | fail)
            refine (HAD.out j _ (by omega) hjs).mono ?_
            rintro e w5 ⟨rfl, hb5⟩
            replace hown3 := own_below' hown3 hb5
            have hb6 : Below w1.heap.size w1 w5 := by (repeat' (first | (with_reducible exact Below.refl _ _) | (with_reducible refine bel_alloc ?_ ?_ _) | (with_reducible refine Below.setCell ?_ ?_ _) | (with_reducible refine below_drewN ?_ _) | (with_reducible refine Below.drew ?_) | (with_reducible refine bel_step hb3 ?_ ?_) | (with_reducible refine bel_step hb5 ?_ ?_) | (with_reducible exact Nat.le_refl _) | (with_reducible assumption) | omega | (simp only [World.size_alloc, World.size_setCell, World.size_drew]; omega) | (simp; omega) | (simp; done)))
            have hz5 := hb5.size
            have hz6 := hb6.size
            replace q0 := keep hb5 q0
            replace q1 := keep hb5 q1
            replace q2 := keep hb5 q2
            have hap := own_lo hown3
            go_wp2_with (at_builtin; refine wpList_append_ow rfl (.tmp 33) (.tmp 37) _ rfl 3 it (.int .i64 0) 1 8 Try.underlying28 hit iz0 iz1 iz2 rfl (by omega) w1.heap.size A3 n3 c3 (iv (la ++ sp j)) rfl (own_below' hown3 ((Below.refl _ _).alloc (Nat.le_refl _) _)) (some ⟨w5.heap.size, 0, none⟩) 1 1 (iv [x1 * 16 + (j : Int) * m]) rfl rfl (Rd.lit (by simp)) (iv_one _) (by unfold maxLen; omega) (by omega) (by simp; omega) ?_; intro A4 c4 w4 hO4 hS4 hA4)
            go_roundw
            case rel =>
              refine ⟨j + 1, A4, n3 + 1, c4, by omega, by go_num, rfl, ?_, ?_, hsm3.app hA4, not_at_app hat3 (by simp; omega) hA4, hS4.cell (cell_al q0 _) hat3, hS4.cell (cell_al q1 _) hat3, hS4.cell (cell_al q2 _) hat3, ?_⟩
              · rw [HNX.out, HN3.out]
                simp
                try omega
              · rw [HNX.out, ← List.append_assoc, iv_app]
                exact hO4
              · exact bel_outS hS4 (fun y hy => by have := hap y hy; omega) (by (repeat' (first | (with_reducible exact Below.refl _ _) | (with_reducible refine bel_alloc ?_ ?_ _) | (with_reducible refine Below.setCell ?_ ?_ _) | (with_reducible refine below_drewN ?_ _) | (with_reducible refine Below.drew ?_) | (with_reducible refine bel_step hb6 ?_ ?_) | (with_reducible exact Nat.le_refl _) | (with_reducible assumption) | omega | (simp only [World.size_alloc, World.size_setCell, World.size_drew]; omega) | (simp; omega) | (simp; done)))) (Nat.le_refl _)
            case measure => simp [intOf]; omega
          | false =>
            have HV := Lib.hid (fun W => (show Calls Try.prog 40 #[.int .i64 x3, .int .i64 (j : Int)] W fun e w' => e = .returned (.bool false) ∧ w' = W by have := HHS.out (j : Int) W; rwa [hv] at this))
            have HNX := Lib.hid (show sp (j + 1) = sp j by rw [HSP.out, hv]; rfl)
            clear hv
            go_wp2_with (first | (go_at_call 39; refine (HSL.out _).mono ?_; rintro e wr ⟨rfl, rfl⟩) | (go_at_call 40; refine (HV.out _).mono ?_; rintro e wr ⟨rfl, rfl⟩) | fail)
            go_roundw
            case rel => exact ⟨j + 1, A3, n3, c3, by omega, by go_num, rfl, by rw [HNX.out, HN3.out], by rw [HNX.out]; exact hown3, hsm3, hat3, q0, q1, q2, hb3⟩
            case measure => simp [intOf]; omega
        · obtain rfl : j = N := by omega
          have hjs : ¬ (j : Int) < s := by omega
          have HE := Lib.hid (show sp j = sl1 by rw [← HSS.out, HNN.out])
          go_wp2_with (first | (go_at_call 39; refine (HSL.out _).mono ?_; rintro e wr ⟨rfl, rfl⟩) | fail)
          go_roundw
          case rel => exact ⟨k + 1, A3, n3, c3, by omega, by go_num, rfl, by rw [HLK.out, HN3.out, HE.out], by rw [HLK.out, ← HE.out]; exact hown3, hsm3, hb3⟩
          case measure => simp [intOf]; omega
    · obtain rfl : k = xs.length := by omega
      generalize lsA xs xs.length = la at *
      go_wp2
      go_loopw [5, 42] (fun u v wr => ∃ (j : Nat) (A3 : Option Addr) (n3 c3 : Nat), j ≤ ys.length ∧ v = .int .i64 j ∧ u = .slice A3 n3 c3 ∧ n3 = (la ++ lsB ys j).length ∧ wr.ownsRow w1.heap.size 3 1 (.slice A3 n3 c3) n3 (iv (la ++ lsB ys j)) ∧ Som A3 ∧ Below w1.heap.size w1 wr) (fun _ v _ => ys.length - (intOf v).toNat)
      case atStart => exact ⟨0, A2, n2, c2, Nat.zero_le _, rfl, rfl, by rw [HN2.out]; simp [lsB], by simpa [lsB] using hown, hsm, hbr⟩
      case round =>
        obtain ⟨j, A3, n3, c3, hj, rfl, rfl, hn3, hown3, hsm3, hb3⟩ := hrel
        have hl3 : n3 ≤ n2 + j := by rw [hn3, List.length_append, ← HN2.out]; have := lsB_len ys j; omega
        have HN3 := Lib.hid hn3
        clear hn3 hown
        by_cases hlj : j < ys.length
        · obtain ⟨b, off, rfl, -, hc0, hc1, hc2⟩ := (hs.below hb3).trip hlj
          have HSU := Lib.hid (lsB_succ hlj)
          have hsb := lOk_bd (HF.out.2.1 _ (List.getElem_mem hlj))
          have HL1 := Lib.hid (show ys[j].1 = ys[j].1 from rfl)
          generalize ys[j].1 = x1 at *
          generalize ys[j].2.1 = x2 at *
          generalize ys[j].2.2 = x3 at *
          generalize lsB ys j = lb at *
          have hap := own_lo hown3
          have hz6 := hb3.size
          have hcz := lt_of_cell' hc0
          go_wp2_with (at_builtin; refine wpList_append_ow rfl (.tmp 46) (.tmp 50) _ rfl 3 it (.int .i64 0) 1 8 Try.underlying28 hit iz0 iz1 iz2 rfl (by omega) w1.heap.size A3 n3 c3 (iv (la ++ lb)) rfl (own_below' (own_below' hown3 ((Below.refl _ _).alloc (Nat.le_refl _) _)) ((Below.refl _ _).alloc (Nat.le_refl _) _)) (some ⟨wr.heap.size + 1, 0, none⟩) 1 1 (iv [x1 * 16]) rfl rfl (Rd.lit (by simp)) (iv_one _) (by unfold maxLen; omega) (by omega) (by simp; omega) ?_; intro A4 c4 w4 hO4 hS4 hA4)
          go_roundw
          case rel =>
            refine ⟨j + 1, A4, n3 + 1, c4, by omega, by go_num, rfl, ?_, ?_, hsm3.app hA4, ?_⟩
            · rw [HSU.out, HN3.out]
              simp
              try omega
            · rw [HSU.out, ← List.append_assoc, iv_app]
              exact hO4
            · exact bel_outS hS4 (fun y hy => by have := hap y hy; omega) (by (repeat' (first | (with_reducible exact Below.refl _ _) | (with_reducible refine bel_alloc ?_ ?_ _) | (with_reducible refine Below.setCell ?_ ?_ _) | (with_reducible refine below_drewN ?_ _) | (with_reducible refine Below.drew ?_) | (with_reducible refine bel_step hb3 ?_ ?_) | (with_reducible exact Nat.le_refl _) | (with_reducible assumption) | omega | (simp only [World.size_alloc, World.size_setCell, World.size_drew]; omega) | (simp; omega) | (simp; done)))) (Nat.le_refl _)
          case measure => simp [intOf]; omega
        · obtain rfl : j = ys.length := by omega
          have HLL := Lib.hid (show liveS xs ys = srt (la ++ lsB ys ys.length) from HR.out)
          generalize lsB ys ys.length = lb at *
          generalize liveS xs ys = ls at *
          generalize la ++ lb = ll at *
          obtain rfl : n3 = ll.length := HN3.out
          have HSO := Lib.hid (sort_own w1.heap.size ll A3 c3 wr hown3 hsm3 (by omega))
          go_wp2_with fail
          refine (HSO.out).mono ?_
          rintro e w7 ⟨rfl, hO7, hb7⟩
          go_wp2
          go_ret
          rw [HLL.out]
          exact made_own (by simp [srt]) hO7 (by omega) (hb1.trans ((hb3.trans hb7).mono hz1))
end Go.Proofs.Ytjimpmdelnnflaa
