/- RangePut, of the program: the ranges are valid. -/
import Derived.Test.YtfdpplamebmdhaaRangeQ
namespace Go.Proofs.Ytfdpplamebmdhaa
open Go.ChangeShapes Go.WideShapes Go.ChangeAt Go.RowKit
set_option linter.unusedVariables false

set_option maxHeartbeats 8000000 in
set_option maxRecDepth 100000 in
theorem rangePut_i_yes (pages : Int) (A : Option Addr) (c : Nat) (xs : List Rg) (a b : Int) (w : World) {B : Nat} (hr : Rd w B A (pv xs)) (hn : xs.length ≤ 1048576) (hpg : -9223372036854775808 ≤ pages ∧ pages ≤ 9223372036854775807) (h1 : rOkB pages xs = true) (h2 : rInB pages (a, b) = true) (res : Option (List Rg)) (hres : ip (a, b) false xs = res) :
    Calls Try.prog 26 #[.int .i64 pages, .slice A xs.length c, .agg #[.int .i64 a, .int .i64 b]] w (MadeRP (res.getD xs) res.isSome w) := by
  obtain ⟨hall, hp1, hp32⟩ := rOkB_facts h1
  have hl33 := rOk_len h1
  have HX := Lib.hid (show ∀ j (hj : j < xs.length), 0 ≤ xs[j].1 ∧ 1 ≤ xs[j].2 ∧ xs[j].1 + xs[j].2 ≤ 32 from fun j hj => by have := rInB_yes (okAt_in hj (hall j hj)); omega)
  have hab := rInB_yes h2
  have hab' : 0 ≤ a ∧ 1 ≤ b ∧ a + b ≤ 32 := by omega
  have CO := fun W (h : Rd W W.heap.size A (pv xs)) => rangesOk_i pages A c xs W h hn hpg
  have CI := fun W => rangeIn_i pages a b W hpg
  rw [h1] at CO
  rw [h2] at CI
  have CO := Lib.hid CO
  have CI := Lib.hid CI
  have HRES := Lib.hid hres
  clear h1 h2 hres hall hab hp1 hp32
  obtain ⟨i0, hi, iz0, iz1, iz2⟩ := info_parts infoRange
  go_enter Try.func26, Try.ntmps26
  go_wp2_with fail
  refine (CO.out _ (hr.alloc _).lt).mono ?_
  rintro e w2 ⟨rfl, hb2⟩
  have r0 : Cl w2 ⟨w.heap.size, 0, none⟩ (.int .i64 a) := Cl.below (by constructor <;> simp [go_sem]) hb2
  have r1 : Cl w2 ⟨w.heap.size, 1, none⟩ (.int .i64 b) := Cl.below (by constructor <;> simp [go_sem]) hb2
  have r0c := r0.1
  have r1c := r1.1
  go_wp2_with fail
  refine (CI.out _).mono ?_
  rintro e w4 ⟨rfl, hb4⟩
  have hz2 := hb2.size
  simp only [World.size_alloc] at hz2
  have hz4 := hb4.size
  replace r0 := r0.below hb4
  replace r1 := r1.below hb4
  clear r0c r1c
  have hr4 := ((hr.alloc (.cells #[.int .i64 a, .int .i64 b] 42)).below hb2).below hb4
  have hbW : Below w.heap.size w w4 := by (repeat' (first | (with_reducible exact Below.refl _ _) | (with_reducible refine bel_alloc ?_ ?_ _) | (with_reducible refine Below.setCell ?_ ?_ _) | (with_reducible refine below_drewN ?_ _) | (with_reducible refine Below.drew ?_) | (with_reducible refine bel_step hb2 ?_ ?_) | (with_reducible refine bel_step hb4 ?_ ?_) | (with_reducible exact Nat.le_refl _) | (with_reducible assumption) | omega | (simp only [World.size_alloc, World.size_setCell, World.size_drew]; omega) | (simp; omega) | (simp; done)))
  have hGw : w.heap.size < w4.heap.size := by omega
  obtain ⟨G, hG⟩ : ∃ G, G = w4.heap.size := ⟨_, rfl⟩
  have hO0 : (w4.alloc (.cells #[] 42)).ownsRow G 42 2 (.slice (some ⟨G, 0, none⟩) 0 0) 0 [] := own_lit hG
  have HGE := Lib.hid hG
  rw [← hG] at hGw
  clear hG hb2 hb4 hz2 hz4
  go_wp2
  go_loopw [8, 9, 27] (fun v8 v9 v27 wr => ∃ (k : Nat) (A2 : Option Addr) (c2 : Nat) (cur : List Rg) (ra rb : Int) (dn : Bool), k ≤ xs.length ∧ v27 = .int .i64 k ∧ v8 = .slice A2 cur.length c2 ∧ v9 = .bool dn ∧ cur.length ≤ 2 * k ∧ wr.ownsRow G 42 2 (.slice A2 cur.length c2) cur.length (pv cur) ∧ Cl wr ⟨w.heap.size, 0, none⟩ (.int .i64 ra) ∧ Cl wr ⟨w.heap.size, 1, none⟩ (.int .i64 rb) ∧ (ip (ra, rb) dn (xs.drop k)).map (fun t => cur ++ t) = res ∧ 0 ≤ ra ∧ 1 ≤ rb ∧ ra + rb ≤ 32 ∧ G ≤ wr.heap.size ∧ Below w.heap.size w wr) (fun _ _ v _ => xs.length - (intOf v).toNat)
  case atStart => exact ⟨0, some ⟨w4.heap.size, 0, none⟩, 0, [], a, b, false, Nat.zero_le _, rfl, rfl, rfl, by simp, by rw [← HGE.out]; exact hO0, r0.alloc _, r1.alloc _, by rw [List.drop_zero, HRES.out]; cases res <;> simp, hab'.1, hab'.2.1, hab'.2.2, by rw [HGE.out]; simp, by (repeat' (first | (with_reducible exact Below.refl _ _) | (with_reducible refine bel_alloc ?_ ?_ _) | (with_reducible refine Below.setCell ?_ ?_ _) | (with_reducible refine below_drewN ?_ _) | (with_reducible refine Below.drew ?_) | (with_reducible refine bel_step hbW ?_ ?_) | (with_reducible exact Nat.le_refl _) | (with_reducible assumption) | omega | (simp only [World.size_alloc, World.size_setCell, World.size_drew]; omega) | (simp; omega) | (simp; done)))⟩
  case round =>
    obtain ⟨k, A2, c2, cur, ra, rb, dn, hk, rfl, rfl, rfl, hcl, hown, q0, q1, hip, hra, hrb, hrr, hg, hbr⟩ := hrel
    have HIP := Lib.hid hip
    have hapt := own_lo' hown
    have q0c := q0.1
    have q1c := q1.1
    have q0f := q0.2
    have q1f := q1.2
    have lq := lt_of_cell' q0c
    clear hip hO0 r0 r1 hbW hab' hr4
    by_cases hlt : k < xs.length
    · obtain ⟨b3, off3, rfl, -, hx0, hx1⟩ := (hr.lt.below hbr).pair hlt
      have hxb := HX.out k hlt
      have HD := Lib.hid (List.drop_eq_getElem_cons hlt)
      obtain ⟨x1, hx1e⟩ : ∃ x, x = xs[k].1 := ⟨_, rfl⟩
      obtain ⟨x2, hx2e⟩ : ∃ y, y = xs[k].2 := ⟨_, rfl⟩
      have HXE := Lib.hid (show xs[k] = (x1, x2) by rw [hx1e, hx2e])
      rw [← hx1e] at hx0 hxb
      rw [← hx2e] at hx1 hxb
      clear hx1e hx2e
      obtain ⟨D, hDe⟩ : ∃ D, D = xs.drop (k + 1) := ⟨_, rfl⟩
      have HR := Lib.hid (show (ip (ra, rb) dn ((x1, x2) :: D)).map (fun t => cur ++ t) = res by rw [hDe, ← HXE.out, ← HD.out]; exact HIP.out)
      have HDE := Lib.hid hDe
      clear hDe
      have lx := lt_of_cell' hx0
      obtain ⟨hx0b, hx1b, hx2b⟩ := hxb
      by_cases h1 : x1 < ra + rb
      · by_cases h2 : ra < x1 + x2
        · have HN : res = none := by rw [← HR.out]; simp [ip, ovB_t (x := (x1, x2)) (r := (ra, rb)) ⟨h1, h2⟩]
          go_wp2_with fail
          refine (copyRanges_any _ _ _ _ ((hr.below hbr).alloc _) hn).mono ?_
          rintro e w3 ⟨A3, c3, rfl, ho, hb3⟩
          have HB := Lib.hid (show Below w.heap.size w w3 by (repeat' (first | (with_reducible exact Below.refl _ _) | (with_reducible refine bel_alloc ?_ ?_ _) | (with_reducible refine Below.setCell ?_ ?_ _) | (with_reducible refine below_drewN ?_ _) | (with_reducible refine Below.drew ?_) | (with_reducible refine bel_step hbr ?_ ?_) | (with_reducible refine bel_step hb3 ?_ ?_) | (with_reducible exact Nat.le_refl _) | (with_reducible assumption) | omega | (simp only [World.size_alloc, World.size_setCell, World.size_drew]; omega) | (simp; omega) | (simp; done))))
          have hz := hbr.size
          have HNN := Lib.hid HN
          clear HN
          go_wp2
          go_ret2
          rw [HNN.out]
          exact made_rp rfl ho.1 (by simp; omega) HB.out
        · have hov : ovB (x1, x2) (ra, rb) = false := ovB_f (by simp only; omega)
          by_cases m1 : x1 + x2 = ra
          · have HN := Lib.hid (show (ip (x1, x2 + rb) dn D).map (fun t => cur ++ t) = res by rw [← HR.out]; simp [ip, hov, m1])
            have hb1 : (x1 + x2 == ra) = true := by simp [m1]
            have HM1 := Lib.hid m1
            clear m1 hov
            go_wp2
            go_roundw
            case rel =>
              have hm := HM1.out
              refine ⟨k + 1, A2, c2, cur, x1, x2 + rb, dn, by omega, by go_num, rfl, rfl, by omega, ?_, ?_, ?_, by rw [← HDE.out]; exact HN.out, by omega, by omega, by omega, by simp; omega, ?_⟩
              · exact own_below' (((Ow.mk' hown).set _ (.inl hGw)).set _ (.inl hGw)).1 ((Below.refl _ _).alloc (Nat.le_refl _) _)
              · exact ((q0.same (.int .i64 x1)).other (q := ⟨w.heap.size, 1, none⟩) _ (by simp)).alloc _
              · exact ((q1.other (q := ⟨w.heap.size, 0, none⟩) _ (by simp)).same _).alloc _
              · (repeat' (first | (with_reducible exact Below.refl _ _) | (with_reducible refine bel_alloc ?_ ?_ _) | (with_reducible refine Below.setCell ?_ ?_ _) | (with_reducible refine below_drewN ?_ _) | (with_reducible refine Below.drew ?_) | (with_reducible refine bel_step hbr ?_ ?_) | (with_reducible exact Nat.le_refl _) | (with_reducible assumption) | omega | (simp only [World.size_alloc, World.size_setCell, World.size_drew]; omega) | (simp; omega) | (simp; done)))
            case measure => simp [intOf]; omega
          · have hb1 : (x1 + x2 == ra) = false := by simp [m1]
            have m2 : ¬ ra + rb = x1 := by omega
            have hb2 : (ra + rb == x1) = false := by simp [m2]
            have m3 : ¬ ra < x1 := by omega
            have HN := Lib.hid (show (ip (ra, rb) dn D).map (fun t => (cur ++ [(x1, x2)]) ++ t) = res by rw [← HR.out]; simp [ip, hov, m1, m2, m3, Option.map_map, Function.comp_def])
            clear m1 m2 hov
            go_wp2_with (at_builtin; refine wpList_append_ow rfl (.tmp 31) (.tmp 33) _ rfl 42 i0 (.agg #[.int .i64 0, .int .i64 0]) 2 16 Try.underlying25 hi iz0 iz1 iz2 rfl (by omega) G A2 cur.length c2 (pv cur) rfl (own_below' hown (by (repeat' (first | (with_reducible exact Below.refl _ _) | (with_reducible refine bel_alloc ?_ ?_ _) | (with_reducible refine Below.setCell ?_ ?_ _) | (with_reducible refine below_drewN ?_ _) | (with_reducible refine Below.drew ?_) | (with_reducible exact Nat.le_refl _) | (with_reducible assumption) | omega | (simp only [World.size_alloc, World.size_setCell, World.size_drew]; omega) | (simp; omega) | (simp; done))))) (some ⟨wr.heap.size + 1, 0, none⟩) 1 1 (pv [(x1, x2)]) rfl rfl (Rd.lit (by simp)) (pv_one _) (by unfold maxLen; omega) (by omega) (by simp; omega) ?_; intro A4 c4 w4 hO4 hS4 hA4)
            have hz4 := hS4.size
            simp only [World.size_alloc] at hz4
            go_roundw
            case rel =>
              refine ⟨k + 1, A4, c4, cur ++ [(x1, x2)], ra, rb, dn, by omega, by go_num, by rw [List.length_append]; rfl, rfl, by simp; omega, by rw [pv_app, List.length_append]; exact hO4, ?_, ?_, by rw [← HDE.out]; exact HN.out, hra, hrb, hrr, by omega, ?_⟩
              · exact ((q0.alloc _).alloc _).outS hS4 (fun h => by have := hapt _ h; simp at this; omega)
              · exact ((q1.alloc _).alloc _).outS hS4 (fun h => by have := hapt _ h; simp at this; omega)
              · exact bel_outS hS4 (fun y hy => by have := hapt y hy; omega) (by (repeat' (first | (with_reducible exact Below.refl _ _) | (with_reducible refine bel_alloc ?_ ?_ _) | (with_reducible refine Below.setCell ?_ ?_ _) | (with_reducible refine below_drewN ?_ _) | (with_reducible refine Below.drew ?_) | (with_reducible refine bel_step hbr ?_ ?_) | (with_reducible exact Nat.le_refl _) | (with_reducible assumption) | omega | (simp only [World.size_alloc, World.size_setCell, World.size_drew]; omega) | (simp; omega) | (simp; done)))) (Nat.le_refl _)
            case measure => simp [intOf]; omega
      · have hov : ovB (x1, x2) (ra, rb) = false := ovB_f (by simp only; omega)
        have m1 : ¬ x1 + x2 = ra := by omega
        have hb1 : (x1 + x2 == ra) = false := by simp [m1]
        have m3 : ra < x1 := by omega
        by_cases m2 : ra + rb = x1
        · have HN := Lib.hid (show (ip (ra, rb + x2) dn D).map (fun t => cur ++ t) = res by rw [← HR.out]; simp [ip, hov, m1, m2])
          have hb2 : (ra + rb == x1) = true := by simp [m2]
          have HM2 := Lib.hid m2
          clear m1 m2 hov
          go_wp2
          go_roundw
          case rel =>
            have hm := HM2.out
            refine ⟨k + 1, A2, c2, cur, ra, rb + x2, dn, by omega, by go_num, rfl, rfl, by omega, ?_, ?_, ?_, by rw [← HDE.out]; exact HN.out, by omega, by omega, by omega, by simp; omega, ?_⟩
            · exact own_below' ((Ow.mk' hown).set _ (.inl hGw)).1 ((Below.refl _ _).alloc (Nat.le_refl _) _)
            · exact (q0.other (q := ⟨w.heap.size, 1, none⟩) _ (by simp)).alloc _
            · exact (q1.same _).alloc _
            · (repeat' (first | (with_reducible exact Below.refl _ _) | (with_reducible refine bel_alloc ?_ ?_ _) | (with_reducible refine Below.setCell ?_ ?_ _) | (with_reducible refine below_drewN ?_ _) | (with_reducible refine Below.drew ?_) | (with_reducible refine bel_step hbr ?_ ?_) | (with_reducible exact Nat.le_refl _) | (with_reducible assumption) | omega | (simp only [World.size_alloc, World.size_setCell, World.size_drew]; omega) | (simp; omega) | (simp; done)))
          case measure => simp [intOf]; omega
        · have hb2 : (ra + rb == x1) = false := by simp [m2]
          cases dn
          · have HN := Lib.hid (show (ip (ra, rb) true D).map (fun t => (cur ++ [(ra, rb), (x1, x2)]) ++ t) = res by rw [← HR.out]; simp [ip, hov, m1, m2, m3, Option.map_map, Function.comp_def])
            clear m1 m2 hov
            go_wp2_with (at_builtin; refine wpList_append_ow rfl (.tmp 98) (.tmp 101) _ rfl 42 i0 (.agg #[.int .i64 0, .int .i64 0]) 2 16 Try.underlying25 hi iz0 iz1 iz2 rfl (by omega) G A2 cur.length c2 (pv cur) rfl (own_below' hown (by (repeat' (first | (with_reducible exact Below.refl _ _) | (with_reducible refine bel_alloc ?_ ?_ _) | (with_reducible refine Below.setCell ?_ ?_ _) | (with_reducible refine below_drewN ?_ _) | (with_reducible refine Below.drew ?_) | (with_reducible exact Nat.le_refl _) | (with_reducible assumption) | omega | (simp only [World.size_alloc, World.size_setCell, World.size_drew]; omega) | (simp; omega) | (simp; done))))) (some ⟨wr.heap.size + 1, 0, none⟩) 2 2 (pv [(ra, rb), (x1, x2)]) rfl rfl (Rd.lit (by simp)) (pv_one _) (by unfold maxLen; omega) (by omega) (by simp; omega) ?_; intro A4 c4 w4 hO4 hS4 hA4)
            have hz4 := hS4.size
            simp only [World.size_alloc] at hz4
            go_roundw
            case rel =>
              refine ⟨k + 1, A4, c4, cur ++ [(ra, rb), (x1, x2)], ra, rb, true, by omega, by go_num, by rw [List.length_append]; rfl, rfl, by simp; omega, by rw [pv_app, List.length_append]; exact hO4, ?_, ?_, by rw [← HDE.out]; exact HN.out, hra, hrb, hrr, by omega, ?_⟩
              · exact ((q0.alloc _).alloc _).outS hS4 (fun h => by have := hapt _ h; simp at this; omega)
              · exact ((q1.alloc _).alloc _).outS hS4 (fun h => by have := hapt _ h; simp at this; omega)
              · exact bel_outS hS4 (fun y hy => by have := hapt y hy; omega) (by (repeat' (first | (with_reducible exact Below.refl _ _) | (with_reducible refine bel_alloc ?_ ?_ _) | (with_reducible refine Below.setCell ?_ ?_ _) | (with_reducible refine below_drewN ?_ _) | (with_reducible refine Below.drew ?_) | (with_reducible refine bel_step hbr ?_ ?_) | (with_reducible exact Nat.le_refl _) | (with_reducible assumption) | omega | (simp only [World.size_alloc, World.size_setCell, World.size_drew]; omega) | (simp; omega) | (simp; done)))) (Nat.le_refl _)
            case measure => simp [intOf]; omega
          · have HN := Lib.hid (show (ip (ra, rb) true D).map (fun t => (cur ++ [(x1, x2)]) ++ t) = res by rw [← HR.out]; simp [ip, hov, m1, m2, Option.map_map, Function.comp_def])
            clear m1 m2 hov
            go_wp2_with (at_builtin; refine wpList_append_ow rfl (.tmp 31) (.tmp 33) _ rfl 42 i0 (.agg #[.int .i64 0, .int .i64 0]) 2 16 Try.underlying25 hi iz0 iz1 iz2 rfl (by omega) G A2 cur.length c2 (pv cur) rfl (own_below' hown (by (repeat' (first | (with_reducible exact Below.refl _ _) | (with_reducible refine bel_alloc ?_ ?_ _) | (with_reducible refine Below.setCell ?_ ?_ _) | (with_reducible refine below_drewN ?_ _) | (with_reducible refine Below.drew ?_) | (with_reducible exact Nat.le_refl _) | (with_reducible assumption) | omega | (simp only [World.size_alloc, World.size_setCell, World.size_drew]; omega) | (simp; omega) | (simp; done))))) (some ⟨wr.heap.size + 1, 0, none⟩) 1 1 (pv [(x1, x2)]) rfl rfl (Rd.lit (by simp)) (pv_one _) (by unfold maxLen; omega) (by omega) (by simp; omega) ?_; intro A4 c4 w4 hO4 hS4 hA4)
            have hz4 := hS4.size
            simp only [World.size_alloc] at hz4
            go_roundw
            case rel =>
              refine ⟨k + 1, A4, c4, cur ++ [(x1, x2)], ra, rb, true, by omega, by go_num, by rw [List.length_append]; rfl, rfl, by simp; omega, by rw [pv_app, List.length_append]; exact hO4, ?_, ?_, by rw [← HDE.out]; exact HN.out, hra, hrb, hrr, by omega, ?_⟩
              · exact ((q0.alloc _).alloc _).outS hS4 (fun h => by have := hapt _ h; simp at this; omega)
              · exact ((q1.alloc _).alloc _).outS hS4 (fun h => by have := hapt _ h; simp at this; omega)
              · exact bel_outS hS4 (fun y hy => by have := hapt y hy; omega) (by (repeat' (first | (with_reducible exact Below.refl _ _) | (with_reducible refine bel_alloc ?_ ?_ _) | (with_reducible refine Below.setCell ?_ ?_ _) | (with_reducible refine below_drewN ?_ _) | (with_reducible refine Below.drew ?_) | (with_reducible refine bel_step hbr ?_ ?_) | (with_reducible exact Nat.le_refl _) | (with_reducible assumption) | omega | (simp only [World.size_alloc, World.size_setCell, World.size_drew]; omega) | (simp; omega) | (simp; done)))) (Nat.le_refl _)
            case measure => simp [intOf]; omega
    · obtain rfl : k = xs.length := by omega
      have HE := Lib.hid (show res = some (cur ++ (if dn = true then [] else [(ra, rb)])) by rw [← HIP.out, List.drop_length]; simp [ip])
      cases dn
      · have HE2 := Lib.hid (show res = some (cur ++ [(ra, rb)]) by rw [HE.out]; simp)
        clear HE
        go_wp2_with (at_builtin; refine wpList_append_ow rfl (.tmp 106) (.tmp 108) _ rfl 42 i0 (.agg #[.int .i64 0, .int .i64 0]) 2 16 Try.underlying25 hi iz0 iz1 iz2 rfl (by omega) G A2 cur.length c2 (pv cur) rfl (own_below' hown (by (repeat' (first | (with_reducible exact Below.refl _ _) | (with_reducible refine bel_alloc ?_ ?_ _) | (with_reducible refine Below.setCell ?_ ?_ _) | (with_reducible refine below_drewN ?_ _) | (with_reducible refine Below.drew ?_) | (with_reducible exact Nat.le_refl _) | (with_reducible assumption) | omega | (simp only [World.size_alloc, World.size_setCell, World.size_drew]; omega) | (simp; omega) | (simp; done))))) (some ⟨wr.heap.size, 0, none⟩) 1 1 (pv [(ra, rb)]) rfl rfl (Rd.lit (by simp)) (pv_one _) (by unfold maxLen; omega) (by omega) (by simp; omega) ?_; intro A4 c4 w4 hO4 hS4 hA4)
        have HB := Lib.hid (show Below w.heap.size w w4 from bel_outS hS4 (fun y hy => by have := hapt y hy; omega) (by (repeat' (first | (with_reducible exact Below.refl _ _) | (with_reducible refine bel_alloc ?_ ?_ _) | (with_reducible refine Below.setCell ?_ ?_ _) | (with_reducible refine below_drewN ?_ _) | (with_reducible refine Below.drew ?_) | (with_reducible refine bel_step hbr ?_ ?_) | (with_reducible exact Nat.le_refl _) | (with_reducible assumption) | omega | (simp only [World.size_alloc, World.size_setCell, World.size_drew]; omega) | (simp; omega) | (simp; done)))) (Nat.le_refl _))
        go_ret2
        rw [HE2.out]
        rw [← pv_app] at hO4
        exact made_rp (by simp) hO4 (by omega) HB.out
      · have HE2 := Lib.hid (show res = some cur by rw [HE.out]; simp)
        clear HE
        go_wp2
        go_ret2
        rw [HE2.out]
        exact made_rp (xs := cur) (ok := true) rfl hown (Nat.le_of_lt hGw) hbr
end Go.Proofs.Ytfdpplamebmdhaa
