/- PagesOn and PageEntry, of the program and of the reference. -/
import Derived.Test.YtljholnnhogdkaaMacA
import Derived.Test.YtljholnnhogdkaaNum
import Derived.Test.YtljholnnhogdkaaIntN
namespace Go.Proofs.Ytljholnnhogdkaa
open Go.ChangeShapes Go.WideShapes Go.ChangeAt Go.RowKit
set_option linter.unusedVariables false
set_option linter.unusedSimpArgs false

def MadeOn (on : Bool) (w : World) (e : Ending) (w' : World) : Prop :=
  ∃ A m c, e = .returned (.slice A m c) ∧ decide (0 < m) = on ∧ m ≤ 1048576 ∧ Below w.heap.size w w'
theorem any_take {es : List En} {i : Int} {k : Nat} (h : k < es.length) : onB (es.take (k + 1)) i = (onB (es.take k) i || onE i es[k]) := by
  unfold onB
  rw [List.take_succ_eq_append_getElem h, List.any_append]
  simp
set_option maxRecDepth 100000 in
set_option maxHeartbeats 8000000 in
theorem pagesOn_i (A : Option Addr) (c : Nat) (es : List En) (f : Int) (w : World) {B1 : Nat} (hr : Rd w B1 A (pv es)) (hn : es.length ≤ 1048576) (v : Bool) (hv : onB es f = v) :
    Calls Try.prog 89 #[.agg #[.slice A es.length c], .int .i64 f] w (MadeOn v w) := by
  subst hv
  obtain ⟨t0, ht, iz0, iz1, iz2⟩ := info_parts infoInt
  go_enter Try.func89, Try.ntmps89
  go_wp2
  have hO0 := own_lit (w := w.alloc (.cells #[.slice A es.length c] 45)) (g := w.heap.size + 1) (e := 3) (size := 1) (by simp)
  have hr0 := ((hr.alloc (.cells #[.slice A es.length c] 45)).alloc (.cells #[] 3)).lt
  have q0 : ((w.alloc (.cells #[.slice A es.length c] 45)).alloc (.cells #[] 3)).cell? ⟨w.heap.size, 0, none⟩ = some (.slice A es.length c) := by simp [go_sem]
  have hW : Below w.heap.size w ((w.alloc (.cells #[.slice A es.length c] 45)).alloc (.cells #[] 3)) := by (repeat' (first | (with_reducible exact Below.refl _ _) | (with_reducible refine bel_alloc ?_ ?_ _) | (with_reducible refine Below.setCell ?_ ?_ _) | (with_reducible refine below_drewN ?_ _) | (with_reducible refine Below.drew ?_) | (with_reducible exact Nat.le_refl _) | (with_reducible assumption) | omega | (simp only [World.size_alloc, World.size_setCell, World.size_drew]; omega) | (simp; omega) | (simp; done)))
  have hzW : w.heap.size + 2 ≤ ((w.alloc (.cells #[.slice A es.length c] 45)).alloc (.cells #[] 3)).heap.size := by simp
  have hrd0 : Rd2 iv w 0 none [] := Rd2.nil
  clear hrd0
  go_loopw [5, 12] (fun u v wr => ∃ (k : Nat) (A2 : Option Addr) (m c2 : Nat) (ms : List Value), k ≤ es.length ∧ m ≤ k ∧ v = .int .i64 k ∧ u = .slice A2 m c2 ∧ decide (0 < m) = onB (es.take k) f ∧ wr.ownsRow (w.heap.size + 1) 3 1 (.slice A2 m c2) m ms ∧ wr.cell? ⟨w.heap.size, 0, none⟩ = some (.slice A es.length c) ∧ w.heap.size + 2 ≤ wr.heap.size ∧ Below w.heap.size w wr) (fun _ v _ => es.length - (intOf v).toNat)
  case atStart => exact ⟨0, some ⟨w.heap.size + 1, 0, none⟩, 0, 0, [], Nat.zero_le _, Nat.le_refl _, rfl, rfl, by simp [onB], hO0, q0, hzW, hW⟩
  case round =>
    obtain ⟨k, A2, m, c2, ms, hk, hmk, rfl, rfl, hon, hown, p0, hzr, hbr⟩ := hrel
    have HON := Lib.hid hon
    clear hon q0
    have lp0 := lt_of_cell' p0
    by_cases hlt : k < es.length
    · obtain ⟨b, off, hA, -, hc0, hc1⟩ := (hr.lt.below hbr).pair hlt
      subst hA
      have lc0 := lt_of_cell' hc0
      have HS := Lib.hid (any_take (i := f) hlt)
      have HE := Lib.hid (show onE f es[k] = (decide (es[k].1 ≠ 0) && decide (es[k].2 = f)) from rfl)
      generalize onE f es[k] = on at *
      generalize es[k].1 = x at *
      generalize es[k].2 = y at *
      have i0 : (0 : Int) ≤ (k : Int) := by omega
      have i1 : (k : Int) < (es.length : Int) := by omega
      by_cases hx : x = 0
      · have HC := Lib.hid (show on = false by rw [HE.out, hx]; rfl)
        have hxb : (x != 0) = false := by simp [hx]
        clear hx
        go_wp2
        go_roundw
        case rel => exact ⟨k + 1, A2, m, c2, ms, by omega, by omega, by go_num, rfl, by rw [HS.out, HC.out, HON.out]; simp, own_below' hown (by (repeat' (first | (with_reducible exact Below.refl _ _) | (with_reducible refine bel_alloc ?_ ?_ _) | (with_reducible refine Below.setCell ?_ ?_ _) | (with_reducible refine below_drewN ?_ _) | (with_reducible refine Below.drew ?_) | (with_reducible exact Nat.le_refl _) | (with_reducible assumption) | omega | (simp only [World.size_alloc, World.size_setCell, World.size_drew]; omega) | (simp; omega) | (simp; done)))), (by first | exact p0 | exact cell_al p0 _), by first | omega | (simp; omega), by (repeat' (first | (with_reducible exact Below.refl _ _) | (with_reducible refine bel_alloc ?_ ?_ _) | (with_reducible refine Below.setCell ?_ ?_ _) | (with_reducible refine below_drewN ?_ _) | (with_reducible refine Below.drew ?_) | (with_reducible refine bel_step hbr ?_ ?_) | (with_reducible exact Nat.le_refl _) | (with_reducible assumption) | omega | (simp only [World.size_alloc, World.size_setCell, World.size_drew]; omega) | (simp; omega) | (simp; done)))⟩
        case measure => simp [intOf]; omega
      · have hxb : (x != 0) = true := by simp [hx]
        by_cases hy : y = f
        · have HC := Lib.hid (show on = true by rw [HE.out]; simp [hx, hy])
          have hyb : (y == f) = true := by simp [hy]
          have hapt := own_lo hown
          have HX := Lib.hid hy
          clear hx hy
          go_wp2_with (at_builtin; refine wpList_append_ow rfl (.tmp 26) (.tmp 28) _ rfl 3 t0 (.int .i64 0) 1 8 Try.underlying22 ht iz0 iz1 iz2 rfl (by omega) (w.heap.size + 1) A2 m c2 ms rfl (own_below' hown (by (repeat' (first | (with_reducible exact Below.refl _ _) | (with_reducible refine bel_alloc ?_ ?_ _) | (with_reducible refine Below.setCell ?_ ?_ _) | (with_reducible refine below_drewN ?_ _) | (with_reducible refine Below.drew ?_) | (with_reducible exact Nat.le_refl _) | (with_reducible assumption) | omega | (simp only [World.size_alloc, World.size_setCell, World.size_drew]; omega) | (simp; omega) | (simp; done))))) (some ⟨_, 0, none⟩) 1 1 (iv [(k : Int)]) rfl rfl (Rd.lit (by simp)) (iv_one _) (by unfold maxLen; omega) (by omega) (by simp; omega) ?_; intro A4 c4 w4 hO4 hS4 hA4)
          have hz4 := hS4.size
          simp only [World.size_alloc] at hz4
          go_roundw
          case rel =>
            refine ⟨k + 1, A4, m + 1, c4, _, by omega, by omega, by go_num, rfl, by rw [HS.out, HC.out]; simp, hO4, hS4.cell (by first | exact cell_al p0 _ | exact cell_al (cell_al p0 _) _) (fun hx => by have := hapt _ hx; dsimp only at this; omega), by omega, ?_⟩
            exact bel_outS hS4 (fun y hy => by have := hapt y hy; omega) (by (repeat' (first | (with_reducible exact Below.refl _ _) | (with_reducible refine bel_alloc ?_ ?_ _) | (with_reducible refine Below.setCell ?_ ?_ _) | (with_reducible refine below_drewN ?_ _) | (with_reducible refine Below.drew ?_) | (with_reducible refine bel_step hbr ?_ ?_) | (with_reducible exact Nat.le_refl _) | (with_reducible assumption) | omega | (simp only [World.size_alloc, World.size_setCell, World.size_drew]; omega) | (simp; omega) | (simp; done)))) (Nat.le_refl _)
          case measure => simp [intOf]; omega
        · have HC := Lib.hid (show on = false by rw [HE.out]; simp [hy])
          have hyb : (y == f) = false := by simp [hy]
          clear hx hy
          go_wp2
          go_roundw
          case rel => exact ⟨k + 1, A2, m, c2, ms, by omega, by omega, by go_num, rfl, by rw [HS.out, HC.out, HON.out]; simp, own_below' hown (by (repeat' (first | (with_reducible exact Below.refl _ _) | (with_reducible refine bel_alloc ?_ ?_ _) | (with_reducible refine Below.setCell ?_ ?_ _) | (with_reducible refine below_drewN ?_ _) | (with_reducible refine Below.drew ?_) | (with_reducible exact Nat.le_refl _) | (with_reducible assumption) | omega | (simp only [World.size_alloc, World.size_setCell, World.size_drew]; omega) | (simp; omega) | (simp; done)))), (by first | exact p0 | exact cell_al p0 _), by first | omega | (simp; omega), by (repeat' (first | (with_reducible exact Below.refl _ _) | (with_reducible refine bel_alloc ?_ ?_ _) | (with_reducible refine Below.setCell ?_ ?_ _) | (with_reducible refine below_drewN ?_ _) | (with_reducible refine Below.drew ?_) | (with_reducible refine bel_step hbr ?_ ?_) | (with_reducible exact Nat.le_refl _) | (with_reducible assumption) | omega | (simp only [World.size_alloc, World.size_setCell, World.size_drew]; omega) | (simp; omega) | (simp; done)))⟩
          case measure => simp [intOf]; omega
    · have HT := Lib.hid (show es.take k = es from List.take_of_length_le (by omega))
      go_wp2
      go_ret
      exact ⟨A2, m, c2, rfl, by rw [HON.out, HT.out], by omega, hbr⟩
set_option maxRecDepth 100000 in
set_option maxHeartbeats 8000000 in
theorem pagesOn_s (A : Option Addr) (c : Nat) (es : List En) (f : Int) (w : World) {B1 : Nat} (hr : Rd w B1 A (pv es)) (hn : es.length ≤ 1048576) (v : Bool) (hv : onB es f = v) :
    Calls Try.prog 78 #[.agg #[.slice A es.length c], .int .i64 f] w (MadeOn v w) := by
  subst hv
  obtain ⟨t0, ht, iz0, iz1, iz2⟩ := info_parts infoInt
  go_enter Try.func78, Try.ntmps78
  go_wp2
  have hO0 := own_lit (w := w.alloc (.cells #[.slice A es.length c] 45)) (g := w.heap.size + 1) (e := 3) (size := 1) (by simp)
  have hr0 := ((hr.alloc (.cells #[.slice A es.length c] 45)).alloc (.cells #[] 3)).lt
  have q0 : ((w.alloc (.cells #[.slice A es.length c] 45)).alloc (.cells #[] 3)).cell? ⟨w.heap.size, 0, none⟩ = some (.slice A es.length c) := by simp [go_sem]
  have hW : Below w.heap.size w ((w.alloc (.cells #[.slice A es.length c] 45)).alloc (.cells #[] 3)) := by (repeat' (first | (with_reducible exact Below.refl _ _) | (with_reducible refine bel_alloc ?_ ?_ _) | (with_reducible refine Below.setCell ?_ ?_ _) | (with_reducible refine below_drewN ?_ _) | (with_reducible refine Below.drew ?_) | (with_reducible exact Nat.le_refl _) | (with_reducible assumption) | omega | (simp only [World.size_alloc, World.size_setCell, World.size_drew]; omega) | (simp; omega) | (simp; done)))
  have hzW : w.heap.size + 2 ≤ ((w.alloc (.cells #[.slice A es.length c] 45)).alloc (.cells #[] 3)).heap.size := by simp
  have hrd0 : Rd2 iv w 0 none [] := Rd2.nil
  clear hrd0
  go_loopw [5, 6] (fun u v wr => ∃ (k : Nat) (A2 : Option Addr) (m c2 : Nat) (ms : List Value), k ≤ es.length ∧ m ≤ k ∧ v = .int .i64 k ∧ u = .slice A2 m c2 ∧ decide (0 < m) = onB (es.take k) f ∧ wr.ownsRow (w.heap.size + 1) 3 1 (.slice A2 m c2) m ms ∧ wr.cell? ⟨w.heap.size, 0, none⟩ = some (.slice A es.length c) ∧ w.heap.size + 2 ≤ wr.heap.size ∧ Below w.heap.size w wr) (fun _ v _ => es.length - (intOf v).toNat)
  case atStart => exact ⟨0, some ⟨w.heap.size + 1, 0, none⟩, 0, 0, [], Nat.zero_le _, Nat.le_refl _, rfl, rfl, by simp [onB], hO0, q0, hzW, hW⟩
  case round =>
    obtain ⟨k, A2, m, c2, ms, hk, hmk, rfl, rfl, hon, hown, p0, hzr, hbr⟩ := hrel
    have HON := Lib.hid hon
    clear hon q0
    have lp0 := lt_of_cell' p0
    by_cases hlt : k < es.length
    · obtain ⟨b, off, hA, -, hc0, hc1⟩ := (hr.lt.below hbr).pair hlt
      subst hA
      have lc0 := lt_of_cell' hc0
      have HS := Lib.hid (any_take (i := f) hlt)
      have HE := Lib.hid (show onE f es[k] = (decide (es[k].1 ≠ 0) && decide (es[k].2 = f)) from rfl)
      generalize onE f es[k] = on at *
      generalize es[k].1 = x at *
      generalize es[k].2 = y at *
      have i0 : (0 : Int) ≤ (k : Int) := by omega
      have i1 : (k : Int) < (es.length : Int) := by omega
      by_cases hx : x = 0
      · have HC := Lib.hid (show on = false by rw [HE.out, hx]; rfl)
        have hxb : (x != 0) = false := by simp [hx]
        clear hx
        go_wp2
        go_roundw
        case rel => exact ⟨k + 1, A2, m, c2, ms, by omega, by omega, by go_num, rfl, by rw [HS.out, HC.out, HON.out]; simp, own_below' hown (by (repeat' (first | (with_reducible exact Below.refl _ _) | (with_reducible refine bel_alloc ?_ ?_ _) | (with_reducible refine Below.setCell ?_ ?_ _) | (with_reducible refine below_drewN ?_ _) | (with_reducible refine Below.drew ?_) | (with_reducible exact Nat.le_refl _) | (with_reducible assumption) | omega | (simp only [World.size_alloc, World.size_setCell, World.size_drew]; omega) | (simp; omega) | (simp; done)))), (by first | exact p0 | exact cell_al p0 _), by first | omega | (simp; omega), by (repeat' (first | (with_reducible exact Below.refl _ _) | (with_reducible refine bel_alloc ?_ ?_ _) | (with_reducible refine Below.setCell ?_ ?_ _) | (with_reducible refine below_drewN ?_ _) | (with_reducible refine Below.drew ?_) | (with_reducible refine bel_step hbr ?_ ?_) | (with_reducible exact Nat.le_refl _) | (with_reducible assumption) | omega | (simp only [World.size_alloc, World.size_setCell, World.size_drew]; omega) | (simp; omega) | (simp; done)))⟩
        case measure => simp [intOf]; omega
      · have hxb : (x != 0) = true := by simp [hx]
        by_cases hy : y = f
        · have HC := Lib.hid (show on = true by rw [HE.out]; simp [hx, hy])
          have hyb : (y == f) = true := by simp [hy]
          have hapt := own_lo hown
          have HX := Lib.hid hy
          clear hx hy
          go_wp2_with (at_builtin; refine wpList_append_ow rfl (.tmp 32) (.tmp 34) _ rfl 3 t0 (.int .i64 0) 1 8 Try.underlying22 ht iz0 iz1 iz2 rfl (by omega) (w.heap.size + 1) A2 m c2 ms rfl (own_below' hown (by (repeat' (first | (with_reducible exact Below.refl _ _) | (with_reducible refine bel_alloc ?_ ?_ _) | (with_reducible refine Below.setCell ?_ ?_ _) | (with_reducible refine below_drewN ?_ _) | (with_reducible refine Below.drew ?_) | (with_reducible exact Nat.le_refl _) | (with_reducible assumption) | omega | (simp only [World.size_alloc, World.size_setCell, World.size_drew]; omega) | (simp; omega) | (simp; done))))) (some ⟨_, 0, none⟩) 1 1 (iv [(k : Int)]) rfl rfl (Rd.lit (by simp)) (iv_one _) (by unfold maxLen; omega) (by omega) (by simp; omega) ?_; intro A4 c4 w4 hO4 hS4 hA4)
          have hz4 := hS4.size
          simp only [World.size_alloc] at hz4
          go_roundw
          case rel =>
            refine ⟨k + 1, A4, m + 1, c4, _, by omega, by omega, by go_num, rfl, by rw [HS.out, HC.out]; simp, hO4, hS4.cell (by first | exact cell_al p0 _ | exact cell_al (cell_al p0 _) _) (fun hx => by have := hapt _ hx; dsimp only at this; omega), by omega, ?_⟩
            exact bel_outS hS4 (fun y hy => by have := hapt y hy; omega) (by (repeat' (first | (with_reducible exact Below.refl _ _) | (with_reducible refine bel_alloc ?_ ?_ _) | (with_reducible refine Below.setCell ?_ ?_ _) | (with_reducible refine below_drewN ?_ _) | (with_reducible refine Below.drew ?_) | (with_reducible refine bel_step hbr ?_ ?_) | (with_reducible exact Nat.le_refl _) | (with_reducible assumption) | omega | (simp only [World.size_alloc, World.size_setCell, World.size_drew]; omega) | (simp; omega) | (simp; done)))) (Nat.le_refl _)
          case measure => simp [intOf]; omega
        · have HC := Lib.hid (show on = false by rw [HE.out]; simp [hy])
          have hyb : (y == f) = false := by simp [hy]
          clear hx hy
          go_wp2
          go_roundw
          case rel => exact ⟨k + 1, A2, m, c2, ms, by omega, by omega, by go_num, rfl, by rw [HS.out, HC.out, HON.out]; simp, own_below' hown (by (repeat' (first | (with_reducible exact Below.refl _ _) | (with_reducible refine bel_alloc ?_ ?_ _) | (with_reducible refine Below.setCell ?_ ?_ _) | (with_reducible refine below_drewN ?_ _) | (with_reducible refine Below.drew ?_) | (with_reducible exact Nat.le_refl _) | (with_reducible assumption) | omega | (simp only [World.size_alloc, World.size_setCell, World.size_drew]; omega) | (simp; omega) | (simp; done)))), (by first | exact p0 | exact cell_al p0 _), by first | omega | (simp; omega), by (repeat' (first | (with_reducible exact Below.refl _ _) | (with_reducible refine bel_alloc ?_ ?_ _) | (with_reducible refine Below.setCell ?_ ?_ _) | (with_reducible refine below_drewN ?_ _) | (with_reducible refine Below.drew ?_) | (with_reducible refine bel_step hbr ?_ ?_) | (with_reducible exact Nat.le_refl _) | (with_reducible assumption) | omega | (simp only [World.size_alloc, World.size_setCell, World.size_drew]; omega) | (simp; omega) | (simp; done)))⟩
          case measure => simp [intOf]; omega
    · have HT := Lib.hid (show es.take k = es from List.take_of_length_le (by omega))
      go_wp2
      go_ret
      exact ⟨A2, m, c2, rfl, by rw [HON.out, HT.out], by omega, hbr⟩
set_option maxRecDepth 100000 in
set_option maxHeartbeats 4000000 in
theorem pageEntry_i (A : Option Addr) (c : Nat) (es : List En) (g : Int) (w : World) {B1 : Nat} (hr : Rd w B1 A (pv es)) (hn : es.length ≤ 1048576) (x y : Int) (hv : peOf es g = (x, y)) :
    Calls Try.prog 86 #[.agg #[.slice A es.length c], .int .i64 g] w fun e w' => e = .returned (.agg #[.int .i64 x, .int .i64 y]) ∧ Below w.heap.size w w' := by
  cases hb : btw g 0 ((es.length : Int) - 1) with
  | false =>
    have h0 : x = 0 ∧ y = 0 := by
      unfold peOf at hv
      rw [hb] at hv
      simp only [Bool.false_eq_true, if_false] at hv
      injection hv with h1 h2
      exact ⟨h1.symm, h2.symm⟩
    obtain ⟨rfl, rfl⟩ := h0
    clear hv
    go_enter Try.func86, Try.ntmps86
    go_wp2_with (go_at_call 32; refine (between_q _ _ _ _).mono ?_; rintro e w2 ⟨rfl, rfl⟩)
    refine bodyPost_ret (v := .agg #[.int .i64 0, .int .i64 0]) (by simp [results, Try.results86, go_sem]) rfl ⟨rfl, ?_⟩
    (repeat' (first | (with_reducible exact Below.refl _ _) | (with_reducible refine bel_alloc ?_ ?_ _) | (with_reducible refine Below.setCell ?_ ?_ _) | (with_reducible refine below_drewN ?_ _) | (with_reducible refine Below.drew ?_) | (with_reducible exact Nat.le_refl _) | (with_reducible assumption) | omega | (simp only [World.size_alloc, World.size_setCell, World.size_drew]; omega) | (simp; omega) | (simp; done)))
  | true =>
    have hg := of_btw hb
    obtain ⟨κ, rfl⟩ := Int.eq_ofNat_of_zero_le hg.1
    have hlt : κ < es.length := by omega
    have hxy : es[κ].1 = x ∧ es[κ].2 = y := by
      unfold peOf at hv
      rw [hb] at hv
      simp only [if_true, Int.toNat_natCast, List.getD_eq_getElem?_getD, List.getElem?_eq_getElem hlt, Option.getD_some] at hv
      rw [hv]
      exact ⟨rfl, rfl⟩
    obtain ⟨b, off, rfl, -, hc0, hc1⟩ := hr.lt.pair hlt
    rw [hxy.1] at hc0
    rw [hxy.2] at hc1
    clear hv hxy
    have i1 : (κ : Int) < (es.length : Int) := by omega
    have lc0 := lt_of_cell' hc0
    go_enter Try.func86, Try.ntmps86
    go_wp2_with (go_at_call 32; refine (between_q _ _ _ _).mono ?_; rintro e w2 ⟨rfl, rfl⟩)
    refine bodyPost_ret (v := .agg #[.int .i64 x, .int .i64 y]) (by simp [results, Try.results86, go_sem]) rfl ⟨rfl, ?_⟩
    (repeat' (first | (with_reducible exact Below.refl _ _) | (with_reducible refine bel_alloc ?_ ?_ _) | (with_reducible refine Below.setCell ?_ ?_ _) | (with_reducible refine below_drewN ?_ _) | (with_reducible refine Below.drew ?_) | (with_reducible exact Nat.le_refl _) | (with_reducible assumption) | omega | (simp only [World.size_alloc, World.size_setCell, World.size_drew]; omega) | (simp; omega) | (simp; done)))
set_option maxRecDepth 100000 in
set_option maxHeartbeats 4000000 in
theorem pageEntry_s (A : Option Addr) (c : Nat) (es : List En) (g : Int) (w : World) {B1 : Nat} (hr : Rd w B1 A (pv es)) (hn : es.length ≤ 1048576) (x y : Int) (hv : peOf es g = (x, y)) :
    Calls Try.prog 75 #[.agg #[.slice A es.length c], .int .i64 g] w fun e w' => e = .returned (.agg #[.int .i64 x, .int .i64 y]) ∧ Below w.heap.size w w' := by
  cases hb : btw g 0 ((es.length : Int) - 1) with
  | false =>
    have h0 : x = 0 ∧ y = 0 := by
      unfold peOf at hv
      rw [hb] at hv
      simp only [Bool.false_eq_true, if_false] at hv
      injection hv with h1 h2
      exact ⟨h1.symm, h2.symm⟩
    obtain ⟨rfl, rfl⟩ := h0
    clear hv
    go_enter Try.func75, Try.ntmps75
    go_wp2_with (go_at_call 30; refine (l01In_q _ _ _ _).mono ?_; rintro e w2 ⟨rfl, rfl⟩)
    refine bodyPost_ret (v := .agg #[.int .i64 0, .int .i64 0]) (by simp [results, Try.results75, go_sem]) rfl ⟨rfl, ?_⟩
    (repeat' (first | (with_reducible exact Below.refl _ _) | (with_reducible refine bel_alloc ?_ ?_ _) | (with_reducible refine Below.setCell ?_ ?_ _) | (with_reducible refine below_drewN ?_ _) | (with_reducible refine Below.drew ?_) | (with_reducible exact Nat.le_refl _) | (with_reducible assumption) | omega | (simp only [World.size_alloc, World.size_setCell, World.size_drew]; omega) | (simp; omega) | (simp; done)))
  | true =>
    have hg := of_btw hb
    obtain ⟨κ, rfl⟩ := Int.eq_ofNat_of_zero_le hg.1
    have hlt : κ < es.length := by omega
    have hxy : es[κ].1 = x ∧ es[κ].2 = y := by
      unfold peOf at hv
      rw [hb] at hv
      simp only [if_true, Int.toNat_natCast, List.getD_eq_getElem?_getD, List.getElem?_eq_getElem hlt, Option.getD_some] at hv
      rw [hv]
      exact ⟨rfl, rfl⟩
    obtain ⟨b, off, rfl, -, hc0, hc1⟩ := hr.lt.pair hlt
    rw [hxy.1] at hc0
    rw [hxy.2] at hc1
    clear hv hxy
    have i1 : (κ : Int) < (es.length : Int) := by omega
    have lc0 := lt_of_cell' hc0
    go_enter Try.func75, Try.ntmps75
    go_wp2_with (go_at_call 30; refine (l01In_q _ _ _ _).mono ?_; rintro e w2 ⟨rfl, rfl⟩)
    refine bodyPost_ret (v := .agg #[.int .i64 x, .int .i64 y]) (by simp [results, Try.results75, go_sem]) rfl ⟨rfl, ?_⟩
    (repeat' (first | (with_reducible exact Below.refl _ _) | (with_reducible refine bel_alloc ?_ ?_ _) | (with_reducible refine Below.setCell ?_ ?_ _) | (with_reducible refine below_drewN ?_ _) | (with_reducible refine Below.drew ?_) | (with_reducible exact Nat.le_refl _) | (with_reducible assumption) | omega | (simp only [World.size_alloc, World.size_setCell, World.size_drew]; omega) | (simp; omega) | (simp; done)))
end Go.Proofs.Ytljholnnhogdkaa
