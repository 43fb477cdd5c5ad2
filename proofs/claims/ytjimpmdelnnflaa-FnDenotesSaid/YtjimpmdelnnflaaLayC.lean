/- LayoutOk, of the reference. -/
import Derived.Test.YtjimpmdelnnflaaLayB
import Derived.Test.YtjimpmdelnnflaaHasI
import Derived.Test.YtjimpmdelnnflaaIntN
import Derived.Test.YtjimpmdelnnflaaInfo
namespace Go.Proofs.Ytjimpmdelnnflaa
open Go.ChangeShapes Go.WideShapes Go.ChangeAt Go.RowKit Go.Maps
set_option linter.unusedVariables false
set_option linter.unusedSimpArgs false

theorem hasI_t {xs : List Int} {a : Int} (h : a ∈ xs) : hasI xs a = true := hasI_iff.2 h
theorem hasI_f {xs : List Int} {a : Int} (h : a ∉ xs) : hasI xs a = false := by
  cases e : hasI xs a
  · rfl
  · exact absurd (hasI_iff.1 e) h
set_option maxRecDepth 100000 in
set_option maxHeartbeats 8000000 in
theorem layoutOk_s (A A' : Option Addr) (c c' : Nat) (xs ys : List T3) (w : World) {B B' : Nat} (hr : Rd w B A (tv xs)) (hs : Rd w B' A' (tv ys)) (hn : xs.length ≤ 1048576) (hm : ys.length ≤ 1048576) (v : Bool) (hv : layOk xs ys = v) :
    Calls Try.prog 31 #[.slice A xs.length c, .slice A' ys.length c'] w fun e w' => e = .returned (.bool v) ∧ Below w.heap.size w w' := by
  subst hv
  replace hr := hr.lt
  replace hs := hs.lt
  obtain ⟨it, hit, iz0, iz1, iz2⟩ := info_parts infoInt
  have hO0 := own_lit (w := w) (g := w.heap.size) (e := 3) (size := 1) rfl
  go_enter Try.func31, Try.ntmps31
  go_wp2
  go_loopw [5, 6] (fun u v wr => ∃ (k : Nat) (A2 : Option Addr) (c2 : Nat), k ≤ xs.length ∧ v = .int .i64 k ∧ u = .slice A2 k c2 ∧ (∀ j (hj : j < xs.length), j < k → spO xs[j] = true) ∧ ((xs.take k).map (·.1)).Nodup ∧ wr.ownsRow w.heap.size 3 1 (.slice A2 k c2) k (iv ((xs.take k).map (·.1))) ∧ Below w.heap.size w wr) (fun _ v _ => xs.length - (intOf v).toNat)
  case atStart => exact ⟨0, some ⟨w.heap.size, 0, none⟩, 0, Nat.zero_le _, rfl, rfl, fun j _ hj => absurd hj (by omega), nodup_nil', hO0, by (repeat' (first | (with_reducible exact Below.refl _ _) | (with_reducible refine bel_alloc ?_ ?_ _) | (with_reducible refine Below.setCell ?_ ?_ _) | (with_reducible refine below_drewN ?_ _) | (with_reducible refine Below.drew ?_) | (with_reducible exact Nat.le_refl _) | (with_reducible assumption) | omega | (simp only [World.size_alloc, World.size_setCell, World.size_drew]; omega) | (simp; omega) | (simp; done)))⟩
  case round =>
    obtain ⟨k, A2, c2, hk, rfl, rfl, hall, hnd, hown, hbr⟩ := hrel
    have HA := Lib.hid hall
    have HN := Lib.hid hnd
    clear hall hnd hO0
    obtain ⟨sg, hsg⟩ : ∃ sg, sg = (xs.take k).map (·.1) := ⟨_, rfl⟩
    rw [← hsg] at hown
    have hsl : sg.length = k := by rw [hsg]; simp; omega
    have HSL := Lib.hid hsl
    have HSG := Lib.hid hsg
    clear hsg hsl
    have hzr := hbr.size
    by_cases hlt : k < xs.length
    · obtain ⟨b, off, rfl, -, hc0, hc1, hc2⟩ := (hr.below hbr).trip hlt
      obtain ⟨x1, hx1⟩ : ∃ x, x = xs[k].1 := ⟨_, rfl⟩
      obtain ⟨x2, hx2⟩ : ∃ x, x = xs[k].2.1 := ⟨_, rfl⟩
      obtain ⟨x3, hx3⟩ : ∃ x, x = xs[k].2.2 := ⟨_, rfl⟩
      have hso : spO xs[k] = spOk x1 x2 x3 := by rw [hx1, hx2, hx3]; rfl
      rw [← hx1] at hc0
      rw [← hx2] at hc1
      rw [← hx3] at hc2
      have HX := Lib.hid hx1
      clear hx1 hx2 hx3
      have HO := Lib.hid (fun W => spanOk_s x1 x2 x3 W)
      cases h1 : spOk x1 x2 x3 with
      | false =>
        have HR := Lib.hid (lay_sp (ys := ys) hlt (hso.trans h1))
        rw [h1] at HO
        clear h1 hso
        go_wp2_with fail
        refine (HO.out _).mono ?_
        rintro e w5 ⟨rfl, hb5⟩
        go_wp2
        go_ret
        exact ⟨by rw [HR.out]; rfl, by (repeat' (first | (with_reducible exact Below.refl _ _) | (with_reducible refine bel_alloc ?_ ?_ _) | (with_reducible refine Below.setCell ?_ ?_ _) | (with_reducible refine below_drewN ?_ _) | (with_reducible refine Below.drew ?_) | (with_reducible refine bel_step hbr ?_ ?_) | (with_reducible refine bel_step hb5 ?_ ?_) | (with_reducible exact Nat.le_refl _) | (with_reducible assumption) | omega | (simp only [World.size_alloc, World.size_setCell, World.size_drew]; omega) | (simp; omega) | (simp; done)))⟩
      | true =>
        have HSO := Lib.hid (hso.trans h1)
        obtain ⟨hP, -⟩ := spOk_yes h1
        rw [h1] at HO
        clear h1 hso
        by_cases hmem : x1 ∈ sg
        · have HR := Lib.hid (lay_sp_dup (ys := ys) hlt (by rw [← HX.out, ← HSG.out]; exact hmem))
          have HD := Lib.hid (hasI_t hmem)
          clear hmem
          go_wp2_with fail
          refine (HO.out _).mono ?_
          rintro e w5 ⟨rfl, hb5⟩
          replace hc0 := keep hb5 hc0
          replace hown := own_below' hown hb5
          go_wp2_with (go_at_call 56; refine (l08Has_s _ _ _ _ _ _ (Rd.own hown) HSL.out (by omega) HD.out).mono ?_; rintro e w5 ⟨rfl, rfl⟩)
          go_ret
          exact ⟨by rw [HR.out]; rfl, by (repeat' (first | (with_reducible exact Below.refl _ _) | (with_reducible refine bel_alloc ?_ ?_ _) | (with_reducible refine Below.setCell ?_ ?_ _) | (with_reducible refine below_drewN ?_ _) | (with_reducible refine Below.drew ?_) | (with_reducible refine bel_step hbr ?_ ?_) | (with_reducible refine bel_step hb5 ?_ ?_) | (with_reducible exact Nat.le_refl _) | (with_reducible assumption) | omega | (simp only [World.size_alloc, World.size_setCell, World.size_drew]; omega) | (simp; omega) | (simp; done)))⟩
        · have HD := Lib.hid (hasI_f hmem)
          have HM := Lib.hid hmem
          clear hmem
          have hapt := own_lo hown
          go_wp2_with fail
          refine (HO.out _).mono ?_
          rintro e w5 ⟨rfl, hb5⟩
          replace hc0 := keep hb5 hc0
          replace hown := own_below' hown hb5
          have hz5 := hb5.size
          have hbw : Below w.heap.size w w5 := by (repeat' (first | (with_reducible exact Below.refl _ _) | (with_reducible refine bel_alloc ?_ ?_ _) | (with_reducible refine Below.setCell ?_ ?_ _) | (with_reducible refine below_drewN ?_ _) | (with_reducible refine Below.drew ?_) | (with_reducible refine bel_step hbr ?_ ?_) | (with_reducible refine bel_step hb5 ?_ ?_) | (with_reducible exact Nat.le_refl _) | (with_reducible assumption) | omega | (simp only [World.size_alloc, World.size_setCell, World.size_drew]; omega) | (simp; omega) | (simp; done)))
          go_wp2_with (first | (go_at_call 56; refine (l08Has_s _ _ _ _ _ _ (Rd.own hown) HSL.out (by omega) HD.out).mono ?_; rintro e w5 ⟨rfl, rfl⟩) | (at_builtin; refine wpList_append_ow rfl (.tmp 31) (.tmp 37) _ rfl 3 it (.int .i64 0) 1 8 Try.underlying28 hit iz0 iz1 iz2 rfl (by omega) w.heap.size A2 k c2 (iv sg) rfl (own_below' hown ((Below.refl _ _).alloc (Nat.le_refl _) _)) (some ⟨w5.heap.size, 0, none⟩) 1 1 (iv [x1]) rfl rfl (Rd.lit (by simp)) (iv_one _) (by unfold maxLen; omega) (by omega) (by simp; omega) ?_; intro A4 c4 w4 hO4 hS4 hA4))
          go_roundw
          case rel =>
            refine ⟨k + 1, A4, c4, by omega, by go_num, rfl, fun i hi hij => ?_, ?_, ?_, bel_outS hS4 (fun y hy => hapt y hy) (by (repeat' (first | (with_reducible exact Below.refl _ _) | (with_reducible refine bel_alloc ?_ ?_ _) | (with_reducible refine Below.setCell ?_ ?_ _) | (with_reducible refine below_drewN ?_ _) | (with_reducible refine Below.drew ?_) | (with_reducible refine bel_step hbw ?_ ?_) | (with_reducible exact Nat.le_refl _) | (with_reducible assumption) | omega | (simp only [World.size_alloc, World.size_setCell, World.size_drew]; omega) | (simp; omega) | (simp; done)))) (Nat.le_refl _)⟩
            · by_cases e : i = k
              · subst e; exact HSO.out
              · exact HA.out i hi (by omega)
            · rw [spg_succ hlt, ← HSG.out, ← HX.out]
              exact nodup_snoc' (by rw [HSG.out]; exact HN.out) HM.out
            · rw [spg_succ hlt, ← HSG.out, ← HX.out, iv_app]
              exact hO4
          case measure => simp [intOf]; omega
    · obtain rfl : k = xs.length := by omega
      have hpg : pgs xs ys 0 = sg := by rw [HSG.out]; simp [pgs]
      have hnd : (pgs xs ys 0).Nodup := by rw [hpg, HSG.out]; exact HN.out
      have HSS := Lib.hid (show ∀ j (hj : j < xs.length), spO xs[j] = true from fun j hj => HA.out j hj hj)
      have HND := Lib.hid hnd
      have HPG := Lib.hid hpg
      have HO0 := Lib.hid hown
      clear hpg hnd hown
      go_wp2
      go_loopw [5, 7] (fun u v wx => ∃ (k n : Nat) (A2 : Option Addr) (c2 : Nat), k ≤ ys.length ∧ v = .int .i64 k ∧ u = .slice A2 n c2 ∧ (pgs xs ys k).length = n ∧ (∀ j (hj : j < ys.length), j < k → lgO ys[j] = true) ∧ (pgs xs ys k).Nodup ∧ wx.ownsRow w.heap.size 3 1 (.slice A2 n c2) n (iv (pgs xs ys k)) ∧ Below w.heap.size w wx) (fun _ v _ => ys.length - (intOf v).toNat)
      case atStart => exact ⟨0, xs.length, A2, c2, Nat.zero_le _, rfl, rfl, by rw [HPG.out]; exact HSL.out, fun j _ hj => absurd hj (by omega), HND.out, by rw [HPG.out]; exact HO0.out, hbr⟩
      case round =>
        obtain ⟨wx, hwx⟩ : ∃ wx : World, wx = wr := ⟨_, rfl⟩
        subst hwx
        obtain ⟨k, n, A2, c2, hk, rfl, rfl, hnn, hall, hnd, hown, hbx⟩ := hrel
        have hpl := pgs_len xs k hall
        have HA2 := Lib.hid hall
        have HN2 := Lib.hid hnd
        clear hall hnd hbr HND HO0 hzr HPG HSL
        obtain ⟨sg, hsg⟩ : ∃ sg, sg = pgs xs ys k := ⟨_, rfl⟩
        rw [← hsg] at hown hpl hnn
        rw [hnn] at hpl
        have HSG := Lib.hid hsg
        have HNN := Lib.hid hnn
        clear hsg hnn
        have hzx := hbx.size
        by_cases hlt : k < ys.length
        · obtain ⟨b, off, rfl, -, hc0, hc1, hc2⟩ := (hs.below hbx).trip hlt
          obtain ⟨x1, hx1⟩ : ∃ x, x = ys[k].1 := ⟨_, rfl⟩
          obtain ⟨x2, hx2⟩ : ∃ x, x = ys[k].2.1 := ⟨_, rfl⟩
          obtain ⟨x3, hx3⟩ : ∃ x, x = ys[k].2.2 := ⟨_, rfl⟩
          have hso : lgO ys[k] = lOk x1 x2 x3 := by rw [hx1, hx2, hx3]; rfl
          rw [← hx1] at hc0
          rw [← hx2] at hc1
          rw [← hx3] at hc2
          have HX1 := Lib.hid hx1
          have HX2 := Lib.hid hx2
          clear hx1 hx2 hx3
          have HO := Lib.hid (fun W => largeOk_s x1 x2 x3 W)
          cases h1 : lOk x1 x2 x3 with
          | false =>
            have HR := Lib.hid (lay_lg (xs := xs) hlt (hso.trans h1))
            rw [h1] at HO
            clear h1 hso
            go_wp2_with fail
            refine (HO.out _).mono ?_
            rintro e w5 ⟨rfl, hb5⟩
            go_wp2
            go_ret
            exact ⟨by rw [HR.out]; rfl, by (repeat' (first | (with_reducible exact Below.refl _ _) | (with_reducible refine bel_alloc ?_ ?_ _) | (with_reducible refine Below.setCell ?_ ?_ _) | (with_reducible refine below_drewN ?_ _) | (with_reducible refine Below.drew ?_) | (with_reducible refine bel_step hbx ?_ ?_) | (with_reducible refine bel_step hb5 ?_ ?_) | (with_reducible exact Nat.le_refl _) | (with_reducible assumption) | omega | (simp only [World.size_alloc, World.size_setCell, World.size_drew]; omega) | (simp; omega) | (simp; done)))⟩
          | true =>
            have HSO := Lib.hid (hso.trans h1)
            obtain ⟨-, -, hN1, hN2, hP1, hP2⟩ := lOk_bd h1
            rw [h1] at HO
            clear h1 hso
            obtain ⟨np, hnp⟩ : ∃ np : Nat, x2 = (np : Int) := ⟨x2.toNat, by omega⟩
            have HNP := Lib.hid (show ys[k].2.1.toNat = np by rw [← HX2.out]; omega)
            subst hnp
            go_wp2_with fail
            refine (HO.out _).mono ?_
            rintro e w5 ⟨rfl, hb5⟩
            replace hc0 := keep hb5 hc0
            replace hc1 := keep hb5 hc1
            replace hown := own_below' hown hb5
            have hbw : Below w.heap.size w w5 := by (repeat' (first | (with_reducible exact Below.refl _ _) | (with_reducible refine bel_alloc ?_ ?_ _) | (with_reducible refine Below.setCell ?_ ?_ _) | (with_reducible refine below_drewN ?_ _) | (with_reducible refine Below.drew ?_) | (with_reducible refine bel_step hbx ?_ ?_) | (with_reducible refine bel_step hb5 ?_ ?_) | (with_reducible exact Nat.le_refl _) | (with_reducible assumption) | omega | (simp only [World.size_alloc, World.size_setCell, World.size_drew]; omega) | (simp; omega) | (simp; done)))
            have hzw := hbw.size
            have hown0 : w5.ownsRow w.heap.size 3 1 (.slice A2 (n + 0) c2) (n + 0) (iv (sg ++ lpg ys[k] 0)) := by simpa [lpg] using hown
            have hnd50 : (sg ++ lpg ys[k] 0).Nodup := by rw [HSG.out]; simpa [lpg] using HN2.out
            have HT5 := Lib.hid hown0
            have HN5 := Lib.hid hnd50
            clear hown0 hnd50 hown
            go_wp2
            go_loopw [5, 8] (fun u v wy => ∃ (i : Nat) (A2 : Option Addr) (c2 : Nat), i ≤ np ∧ v = .int .i64 i ∧ u = .slice A2 (n + i) c2 ∧ (sg ++ lpg ys[k] i).Nodup ∧ wy.ownsRow w.heap.size 3 1 (.slice A2 (n + i) c2) (n + i) (iv (sg ++ lpg ys[k] i)) ∧ wy.cell? ⟨b, off + k * 3, none⟩ = some (.int .i64 x1) ∧ wy.cell? ⟨b, off + k * 3 + 1, none⟩ = some (.int .i64 np) ∧ Below w.heap.size w wy) (fun _ v _ => np - (intOf v).toNat)
            case atStart => exact ⟨0, A2, c2, Nat.zero_le _, rfl, rfl, HN5.out, HT5.out, hc0, hc1, hbw⟩
            case round =>
              obtain ⟨wy, hwy⟩ : ∃ wy : World, wy = wr := ⟨_, rfl⟩
              subst hwy
              obtain ⟨i, A2, c2, hi, rfl, rfl, hnd, hown, hc0, hc1, hby⟩ := hrel
              clear hbx hbw hc2 hzw hzx
              have hzy := hby.size
              have HN3 := Lib.hid hnd
              clear hnd
              obtain ⟨sh, hsh⟩ : ∃ sh, sh = sg ++ lpg ys[k] i := ⟨_, rfl⟩
              rw [← hsh] at hown
              have HSH := Lib.hid hsh
              have HSL := Lib.hid (show sh.length = n + i by rw [hsh, List.length_append, lpg_len, HNN.out])
              clear hsh
              by_cases hlt2 : i < np
              · by_cases hmem : x1 + (i : Int) ∈ sh
                · have HR := Lib.hid (lay_lg_dup (xs := xs) hlt (i := i) (by rw [HNP.out]; exact hlt2) (by rw [← HX1.out, ← HSG.out, ← HSH.out]; exact hmem))
                  have HD := Lib.hid (hasI_t hmem)
                  clear hmem
                  go_wp2_with (go_at_call 56; refine (l08Has_s _ _ _ _ _ _ (Rd.own hown) HSL.out (by omega) HD.out).mono ?_; rintro e wy ⟨rfl, rfl⟩)
                  go_ret
                  exact ⟨by rw [HR.out]; rfl, hby⟩
                · have HD := Lib.hid (hasI_f hmem)
                  have HM := Lib.hid hmem
                  clear hmem
                  have hapt := own_lo hown
                  have hbb : b < w.heap.size := by
                    rcases hs with h | ⟨b', off', hA, hb', -⟩
                    · exact absurd (congrArg List.length h) (by rw [tv_length]; simp; omega)
                    · injection hA with e; injection e with e1 e2; omega
                  go_wp2_with (first | (go_at_call 56; refine (l08Has_s _ _ _ _ _ _ (Rd.own hown) HSL.out (by omega) HD.out).mono ?_; rintro e wy ⟨rfl, rfl⟩) | (at_builtin; refine wpList_append_ow rfl (.tmp 69) (.tmp 77) _ rfl 3 it (.int .i64 0) 1 8 Try.underlying28 hit iz0 iz1 iz2 rfl (by omega) w.heap.size A2 (n + i) c2 (iv sh) rfl (own_below' hown ((Below.refl _ _).alloc (Nat.le_refl _) _)) (some ⟨wy.heap.size, 0, none⟩) 1 1 (iv [x1 + (i : Int)]) rfl rfl (Rd.lit (by simp)) (iv_one _) (by unfold maxLen; omega) (by omega) (by simp; omega) ?_; intro A4 c4 w4 hO4 hS4 hA4))
                  go_roundw
                  case rel =>
                    refine ⟨i + 1, A4, c4, by omega, by go_num, by rw [← Nat.add_assoc], ?_, ?_, hS4.cell (cell_al hc0 _) (fun h => by have := hapt _ h; dsimp only at this; omega), hS4.cell (cell_al hc1 _) (fun h => by have := hapt _ h; dsimp only at this; omega), bel_outS hS4 (fun y hy => hapt y hy) (by (repeat' (first | (with_reducible exact Below.refl _ _) | (with_reducible refine bel_alloc ?_ ?_ _) | (with_reducible refine Below.setCell ?_ ?_ _) | (with_reducible refine below_drewN ?_ _) | (with_reducible refine Below.drew ?_) | (with_reducible refine bel_step hby ?_ ?_) | (with_reducible exact Nat.le_refl _) | (with_reducible assumption) | omega | (simp only [World.size_alloc, World.size_setCell, World.size_drew]; omega) | (simp; omega) | (simp; done)))) (Nat.le_refl _)⟩
                    · rw [lpg_succ, ← List.append_assoc, ← HSH.out, ← HX1.out]
                      exact nodup_snoc' (by rw [HSH.out]; exact HN3.out) HM.out
                    · rw [lpg_succ, ← List.append_assoc, ← HSH.out, ← HX1.out, iv_app, ← Nat.add_assoc]
                      exact hO4
                  case measure => simp [intOf]; omega
              · obtain rfl : i = np := by omega
                go_wp2
                go_roundw
                case rel =>
                  have e1 : pgs xs ys (k + 1) = sh := by rw [pgs_succ hlt, ← HSG.out, HSH.out, ← HNP.out]; rfl
                  refine ⟨k + 1, n + i, A2, c2, by omega, by go_num, rfl, by rw [e1]; exact HSL.out, fun j hj hjk => ?_, by rw [e1, HSH.out]; exact HN3.out, by rw [e1]; exact hown, hby⟩
                  by_cases e : j = k
                  · subst e; exact HSO.out
                  · exact HA2.out j hj (by omega)
                case measure => simp [intOf]; omega
        · obtain rfl : k = ys.length := by omega
          have HR := Lib.hid (lay_yes (xs := xs) (ys := ys) HSS.out (fun j hj => HA2.out j hj hj) HN2.out)
          go_wp2
          go_ret
          exact ⟨by rw [HR.out]; rfl, hbx⟩
end Go.Proofs.Ytjimpmdelnnflaa
