/- LayoutOk, of the program: its walk. -/
import Derived.Test.YtjimpmdelnnflaaLayA
namespace Go.Proofs.Ytjimpmdelnnflaa
open Go.ChangeShapes Go.WideShapes Go.ChangeAt Go.RowKit Go.Maps
set_option linter.unusedVariables false
set_option linter.unusedSimpArgs false

theorem nodup_nil' : ([] : List Int).Nodup := List.nodup_nil
set_option maxRecDepth 100000 in
set_option maxHeartbeats 8000000 in
theorem layoutOk_i (A A' : Option Addr) (c c' : Nat) (xs ys : List T3) (w : World) {B B' : Nat} (hr : Rd w B A (tv xs)) (hs : Rd w B' A' (tv ys)) (hn : xs.length ≤ 1048576) (hm : ys.length ≤ 1048576) (v : Bool) (hv : layOk xs ys = v) :
    Calls Try.prog 17 #[.slice A xs.length c, .slice A' ys.length c'] w fun e w' => e = .returned (.bool v) ∧ Below w.heap.size w w' := by
  subst hv
  replace hr := hr.lt
  replace hs := hs.lt
  have hmm := @run_makeMap Try.prog
  have HS0 : IsSet ((w.alloc (.map #[] 0)).alloc (.cells #[.map (some w.heap.size)] 64)) w.heap.size 0 [] := (IsSet.made w).alloc _
  go_enter Try.func17, Try.ntmps17
  go_wp2
  go_loopw [16] (fun v wr => ∃ k : Nat, k ≤ xs.length ∧ v = .int .i64 k ∧ (∀ j (hj : j < xs.length), j < k → spO xs[j] = true) ∧ ((xs.take k).map (·.1)).Nodup ∧ IsSet wr w.heap.size k ((xs.take k).map (·.1)) ∧ wr.cell? ⟨w.heap.size + 1, 0, none⟩ = some (.map (some w.heap.size)) ∧ Below w.heap.size w wr) (fun v _ => xs.length - (intOf v).toNat)
  case atStart => exact ⟨0, Nat.zero_le _, rfl, fun j _ hj => absurd hj (by omega), nodup_nil', HS0, by simp [go_sem], by (repeat' (first | (with_reducible exact Below.refl _ _) | (with_reducible refine bel_alloc ?_ ?_ _) | (with_reducible refine Below.setCell ?_ ?_ _) | (with_reducible refine below_drewN ?_ _) | (with_reducible refine Below.drew ?_) | (with_reducible exact Nat.le_refl _) | (with_reducible assumption) | omega | (simp only [World.size_alloc, World.size_setCell, World.size_drew]; omega) | (simp; omega) | (simp; done)))⟩
  case round =>
    obtain ⟨k, hk, rfl, hall, hnd, hset, hq, hbr⟩ := hrel
    have HA := Lib.hid hall
    have HN := Lib.hid hnd
    clear hall hnd HS0
    obtain ⟨sg, hsg⟩ : ∃ sg, sg = (xs.take k).map (·.1) := ⟨_, rfl⟩
    rw [← hsg] at hset
    have HSG := Lib.hid hsg
    clear hsg
    by_cases hlt : k < xs.length
    · obtain ⟨b, off, rfl, -, hc0, hc1, hc2⟩ := (hr.below hbr).trip hlt
      obtain ⟨x1, hx1⟩ : ∃ x, x = xs[k].1 := ⟨_, rfl⟩
      obtain ⟨x2, hx2⟩ : ∃ x, x = xs[k].2.1 := ⟨_, rfl⟩
      obtain ⟨x3, hx3⟩ : ∃ x, x = xs[k].2.2 := ⟨_, rfl⟩
      have hso : spO xs[k] = spOk x1 x2 x3 := by rw [hx1, hx2, hx3]; rfl
      rw [← hx1] at hc0
      rw [← hx2] at hc1
      rw [← hx3] at hc2
      have HX := Lib.hid hx1
      clear hx1 hx2 hx3
      have HO := Lib.hid (fun W => spanOk_i x1 x2 x3 W)
      cases h1 : spOk x1 x2 x3 with
      | false =>
        have HR := Lib.hid (lay_sp (ys := ys) hlt (hso.trans h1))
        rw [h1] at HO
        clear h1 hso
        go_wp2_with fail
        refine (HO.out _).mono ?_
        rintro e w5 ⟨rfl, hb5⟩
        go_wp2
        go_ret
        exact ⟨by rw [HR.out]; rfl, by (repeat' (first | (with_reducible exact Below.refl _ _) | (with_reducible refine bel_alloc ?_ ?_ _) | (with_reducible refine Below.setCell ?_ ?_ _) | (with_reducible refine below_drewN ?_ _) | (with_reducible refine Below.drew ?_) | (with_reducible refine bel_step hbr ?_ ?_) | (with_reducible refine bel_step hb5 ?_ ?_) | (with_reducible exact Nat.le_refl _) | (with_reducible assumption) | omega | (simp only [World.size_alloc, World.size_setCell, World.size_drew]; omega) | (simp; omega) | (simp; done)))⟩
      | true =>
        have HSO := Lib.hid (hso.trans h1)
        obtain ⟨hP, -⟩ := spOk_yes h1
        rw [h1] at HO
        clear h1 hso
        have hql := lt_of_cell' hq
        have hml := hset.lt
        by_cases hmem : x1 ∈ sg
        · have HR := Lib.hid (lay_sp_dup (ys := ys) hlt (by rw [← HX.out, ← HSG.out]; exact hmem))
          have HD := Lib.hid (show decide (x1 ∈ sg) = !false by simp [hmem])
          clear hmem
          go_wp2_with fail
          refine (HO.out _).mono ?_
          rintro e w5 ⟨rfl, hb5⟩
          have l0 : w5.cell? ⟨wr.heap.size, 0, none⟩ = some (.int .i64 x1) := keep hb5 (by simp [go_sem])
          have l1 : w5.cell? ⟨wr.heap.size, 1, none⟩ = some (.int .i64 x2) := keep hb5 (by simp [go_sem])
          have l2 : w5.cell? ⟨wr.heap.size, 2, none⟩ = some (.int .i64 x3) := keep hb5 (by simp [go_sem])
          have hq5 := keep hb5 (cell_al hq _)
          have hset5 := (hset.alloc (.cells #[.int .i64 x1, .int .i64 x2, .int .i64 x3] 50)).below hb5
          go_wp2_with (go_at_call 44; refine (add_any _ _ _ _ _ _ hq5 hset5 (by omega) (by omega) (by omega) (by omega) _ HD.out).mono ?_; rintro e w6 ⟨rfl, hset6, hq6, hg6⟩)
          go_ret
          exact ⟨by rw [HR.out]; rfl, bel_grown hg6 (by (repeat' (first | (with_reducible exact Below.refl _ _) | (with_reducible refine bel_alloc ?_ ?_ _) | (with_reducible refine Below.setCell ?_ ?_ _) | (with_reducible refine below_drewN ?_ _) | (with_reducible refine Below.drew ?_) | (with_reducible refine bel_step hbr ?_ ?_) | (with_reducible refine bel_step hb5 ?_ ?_) | (with_reducible exact Nat.le_refl _) | (with_reducible assumption) | omega | (simp only [World.size_alloc, World.size_setCell, World.size_drew]; omega) | (simp; omega) | (simp; done)))) (Nat.le_refl _) (by intro g hg; injection hg with hg; omega)⟩
        · have HD := Lib.hid (show decide (x1 ∈ sg) = !true by simp [hmem])
          have HM := Lib.hid hmem
          clear hmem
          go_wp2_with fail
          refine (HO.out _).mono ?_
          rintro e w5 ⟨rfl, hb5⟩
          have l0 : w5.cell? ⟨wr.heap.size, 0, none⟩ = some (.int .i64 x1) := keep hb5 (by simp [go_sem])
          have l1 : w5.cell? ⟨wr.heap.size, 1, none⟩ = some (.int .i64 x2) := keep hb5 (by simp [go_sem])
          have l2 : w5.cell? ⟨wr.heap.size, 2, none⟩ = some (.int .i64 x3) := keep hb5 (by simp [go_sem])
          have hq5 := keep hb5 (cell_al hq _)
          have hset5 := (hset.alloc (.cells #[.int .i64 x1, .int .i64 x2, .int .i64 x3] 50)).below hb5
          go_wp2_with (go_at_call 44; refine (add_any _ _ _ _ _ _ hq5 hset5 (by omega) (by omega) (by omega) (by omega) _ HD.out).mono ?_; rintro e w6 ⟨rfl, hset6, hq6, hg6⟩)
          go_roundw
          case rel =>
            refine ⟨k + 1, by omega, by go_num, fun i hi hij => ?_, ?_, ?_, hq6, bel_grown hg6 (by (repeat' (first | (with_reducible exact Below.refl _ _) | (with_reducible refine bel_alloc ?_ ?_ _) | (with_reducible refine Below.setCell ?_ ?_ _) | (with_reducible refine below_drewN ?_ _) | (with_reducible refine Below.drew ?_) | (with_reducible refine bel_step hbr ?_ ?_) | (with_reducible refine bel_step hb5 ?_ ?_) | (with_reducible exact Nat.le_refl _) | (with_reducible assumption) | omega | (simp only [World.size_alloc, World.size_setCell, World.size_drew]; omega) | (simp; omega) | (simp; done)))) (Nat.le_refl _) (by intro g hg; injection hg with hg; omega)⟩
            · by_cases e : i = k
              · subst e; exact HSO.out
              · exact HA.out i hi (by omega)
            · rw [spg_succ hlt, ← HSG.out, ← HX.out]
              exact nodup_snoc' (by rw [HSG.out]; exact HN.out) HM.out
            · rw [spg_succ hlt, ← HSG.out, ← HX.out]
              exact hset6.congr (fun y => by simp [or_comm])
          case measure => simp [intOf]; omega
    · obtain rfl : k = xs.length := by omega
      have hpg : pgs xs ys 0 = sg := by rw [HSG.out]; simp [pgs]
      have hnd : (pgs xs ys 0).Nodup := by rw [hpg, HSG.out]; exact HN.out
      have hl0 : sg.length = xs.length := by rw [HSG.out]; simp
      have hset0 : IsSet wr w.heap.size (pgs xs ys 0).length (pgs xs ys 0) := by rw [hpg, hl0]; exact hset
      have HSS := Lib.hid (show ∀ j (hj : j < xs.length), spO xs[j] = true from fun j hj => HA.out j hj hj)
      have HND := Lib.hid hnd
      have HT0 := Lib.hid hset0
      clear hpg hnd hl0 hset hset0
      go_wp2
      go_loopw [33] (fun v wx => ∃ k : Nat, k ≤ ys.length ∧ v = .int .i64 k ∧ (∀ j (hj : j < ys.length), j < k → lgO ys[j] = true) ∧ (pgs xs ys k).Nodup ∧ IsSet wx w.heap.size (pgs xs ys k).length (pgs xs ys k) ∧ wx.cell? ⟨w.heap.size + 1, 0, none⟩ = some (.map (some w.heap.size)) ∧ Below w.heap.size w wx) (fun v _ => ys.length - (intOf v).toNat)
      case atStart => exact ⟨0, Nat.zero_le _, rfl, fun j _ hj => absurd hj (by omega), HND.out, HT0.out, hq, hbr⟩
      case round =>
        obtain ⟨wx, hwx⟩ : ∃ wx : World, wx = wr := ⟨_, rfl⟩
        subst hwx
        obtain ⟨k, hk, rfl, hall, hnd, hset, hq, hbx⟩ := hrel
        have hpl := pgs_len xs k hall
        have HA2 := Lib.hid hall
        have HN2 := Lib.hid hnd
        clear hall hnd hbr HT0 HND
        obtain ⟨sg, hsg⟩ : ∃ sg, sg = pgs xs ys k := ⟨_, rfl⟩
        rw [← hsg] at hset hpl
        have HSG := Lib.hid hsg
        clear hsg
        by_cases hlt : k < ys.length
        · obtain ⟨b, off, rfl, -, hc0, hc1, hc2⟩ := (hs.below hbx).trip hlt
          obtain ⟨x1, hx1⟩ : ∃ x, x = ys[k].1 := ⟨_, rfl⟩
          obtain ⟨x2, hx2⟩ : ∃ x, x = ys[k].2.1 := ⟨_, rfl⟩
          obtain ⟨x3, hx3⟩ : ∃ x, x = ys[k].2.2 := ⟨_, rfl⟩
          have hso : lgO ys[k] = lOk x1 x2 x3 := by rw [hx1, hx2, hx3]; rfl
          rw [← hx1] at hc0
          rw [← hx2] at hc1
          rw [← hx3] at hc2
          have HX1 := Lib.hid hx1
          have HX2 := Lib.hid hx2
          clear hx1 hx2 hx3
          have HO := Lib.hid (fun W => largeOk_i x1 x2 x3 W)
          cases h1 : lOk x1 x2 x3 with
          | false =>
            have HR := Lib.hid (lay_lg (xs := xs) hlt (hso.trans h1))
            rw [h1] at HO
            clear h1 hso
            go_wp2_with fail
            refine (HO.out _).mono ?_
            rintro e w5 ⟨rfl, hb5⟩
            go_wp2
            go_ret
            exact ⟨by rw [HR.out]; rfl, by (repeat' (first | (with_reducible exact Below.refl _ _) | (with_reducible refine bel_alloc ?_ ?_ _) | (with_reducible refine Below.setCell ?_ ?_ _) | (with_reducible refine below_drewN ?_ _) | (with_reducible refine Below.drew ?_) | (with_reducible refine bel_step hbx ?_ ?_) | (with_reducible refine bel_step hb5 ?_ ?_) | (with_reducible exact Nat.le_refl _) | (with_reducible assumption) | omega | (simp only [World.size_alloc, World.size_setCell, World.size_drew]; omega) | (simp; omega) | (simp; done)))⟩
          | true =>
            have HSO := Lib.hid (hso.trans h1)
            obtain ⟨-, -, hN1, hN2, hP1, hP2⟩ := lOk_bd h1
            rw [h1] at HO
            clear h1 hso
            have hql := lt_of_cell' hq
            have hml := hset.lt
            obtain ⟨np, hnp⟩ : ∃ np : Nat, x2 = (np : Int) := ⟨x2.toNat, by omega⟩
            have HNP := Lib.hid (show ys[k].2.1.toNat = np by rw [← HX2.out]; omega)
            subst hnp
            go_wp2_with fail
            refine (HO.out _).mono ?_
            rintro e w5 ⟨rfl, hb5⟩
            have l0 : w5.cell? ⟨wx.heap.size, 0, none⟩ = some (.int .i64 x1) := keep hb5 (by simp [go_sem])
            have l1 : w5.cell? ⟨wx.heap.size, 1, none⟩ = some (.int .i64 np) := keep hb5 (by simp [go_sem])
            have l2 : w5.cell? ⟨wx.heap.size, 2, none⟩ = some (.int .i64 x3) := keep hb5 (by simp [go_sem])
            have hq5 := keep hb5 (cell_al hq _)
            have hset5 := (hset.alloc (.cells #[.int .i64 x1, .int .i64 np, .int .i64 x3] 62)).below hb5
            have hz5 := hb5.size
            simp only [World.size_alloc] at hz5
            have hbw : Below w.heap.size w w5 := by (repeat' (first | (with_reducible exact Below.refl _ _) | (with_reducible refine bel_alloc ?_ ?_ _) | (with_reducible refine Below.setCell ?_ ?_ _) | (with_reducible refine below_drewN ?_ _) | (with_reducible refine Below.drew ?_) | (with_reducible refine bel_step hbx ?_ ?_) | (with_reducible refine bel_step hb5 ?_ ?_) | (with_reducible exact Nat.le_refl _) | (with_reducible assumption) | omega | (simp only [World.size_alloc, World.size_setCell, World.size_drew]; omega) | (simp; omega) | (simp; done)))
            have hset50 : IsSet w5 w.heap.size (sg.length + 0) (sg ++ lpg ys[k] 0) := by simpa [lpg] using hset5
            have hnd50 : (sg ++ lpg ys[k] 0).Nodup := by rw [HSG.out]; simpa [lpg] using HN2.out
            have HT5 := Lib.hid hset50
            have HN5 := Lib.hid hnd50
            clear hset50 hnd50 hset5
            go_wp2
            go_loopw [11] (fun v wy => ∃ i : Nat, i ≤ np ∧ v = .int .i64 i ∧ (sg ++ lpg ys[k] i).Nodup ∧ IsSet wy w.heap.size (sg.length + i) (sg ++ lpg ys[k] i) ∧ wy.cell? ⟨w.heap.size + 1, 0, none⟩ = some (.map (some w.heap.size)) ∧ wy.cell? ⟨wx.heap.size, 0, none⟩ = some (.int .i64 x1) ∧ wy.cell? ⟨wx.heap.size, 1, none⟩ = some (.int .i64 np) ∧ Below w.heap.size w wy) (fun v _ => np - (intOf v).toNat)
            case atStart => exact ⟨0, Nat.zero_le _, rfl, HN5.out, HT5.out, hq5, l0, l1, hbw⟩
            case round =>
              obtain ⟨i, hi, rfl, hnd, hset, hq, l0, l1, hby⟩ := hrel
              clear hbx hbw hq5 l2
              have HN3 := Lib.hid hnd
              clear hnd
              obtain ⟨sh, hsh⟩ : ∃ sh, sh = sg ++ lpg ys[k] i := ⟨_, rfl⟩
              rw [← hsh] at hset
              have HSH := Lib.hid hsh
              clear hsh
              by_cases hlt2 : i < np
              · by_cases hmem : x1 + (i : Int) ∈ sh
                · have HR := Lib.hid (lay_lg_dup (xs := xs) hlt (i := i) (by rw [HNP.out]; exact hlt2) (by rw [← HX1.out, ← HSG.out, ← HSH.out]; exact hmem))
                  have HD := Lib.hid (show decide (x1 + (i : Int) ∈ sh) = !false by simp [hmem])
                  clear hmem
                  go_wp2_with (go_at_call 44; refine (add_any _ _ _ _ _ _ hq hset (by omega) (by omega) (by omega) (by omega) _ HD.out).mono ?_; rintro e w6 ⟨rfl, hset6, hq6, hg6⟩)
                  go_ret
                  exact ⟨by rw [HR.out]; rfl, bel_grown hg6 hby (Nat.le_refl _) (by intro g hg; injection hg with hg; omega)⟩
                · have HD := Lib.hid (show decide (x1 + (i : Int) ∈ sh) = !true by simp [hmem])
                  have HM := Lib.hid hmem
                  clear hmem
                  go_wp2_with (go_at_call 44; refine (add_any _ _ _ _ _ _ hq hset (by omega) (by omega) (by omega) (by omega) _ HD.out).mono ?_; rintro e w6 ⟨rfl, hset6, hq6, hg6⟩)
                  go_roundw
                  case rel =>
                    refine ⟨i + 1, by omega, by go_num, ?_, ?_, hq6, grown_cell' hg6 l0 (by simp; omega), grown_cell' hg6 l1 (by simp; omega), bel_grown hg6 hby (Nat.le_refl _) (by intro g hg; injection hg with hg; omega)⟩
                    · rw [lpg_succ, ← List.append_assoc, ← HSH.out, ← HX1.out]
                      exact nodup_snoc' (by rw [HSH.out]; exact HN3.out) HM.out
                    · rw [lpg_succ, ← List.append_assoc, ← HSH.out, ← HX1.out]
                      exact hset6.congr (fun y => by simp [or_comm])
                  case measure => simp [intOf]; omega
              · obtain rfl : i = np := by omega
                go_wp2
                go_roundw
                case rel =>
                  have e1 : pgs xs ys (k + 1) = sh := by rw [pgs_succ hlt, ← HSG.out, HSH.out, ← HNP.out]; rfl
                  have e2 : (pgs xs ys (k + 1)).length = sg.length + i := by rw [e1, HSH.out, List.length_append, lpg_len]
                  refine ⟨k + 1, by omega, by go_num, fun j hj hjk => ?_, by rw [e1, HSH.out]; exact HN3.out, by rw [e2, e1]; exact hset, hq, hby⟩
                  by_cases e : j = k
                  · subst e; exact HSO.out
                  · exact HA2.out j hj (by omega)
                case measure => simp [intOf]; omega
        · obtain rfl : k = ys.length := by omega
          have HR := Lib.hid (lay_yes (xs := xs) (ys := ys) HSS.out (fun j hj => HA2.out j hj hj) HN2.out)
          go_wp2
          go_ret
          exact ⟨by rw [HR.out]; rfl, hbx⟩
end Go.Proofs.Ytjimpmdelnnflaa
