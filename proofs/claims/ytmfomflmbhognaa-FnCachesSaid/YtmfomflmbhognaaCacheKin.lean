/- CachePut, one way. -/
import Derived.Test.YtmfomflmbhognaaCacheK
import Derived.Deep.RegionHeld3
import Derived.Deep.DrawnRows
namespace Go.Proofs.Ytmfomflmbhognaa
open Go.ChangeShapes Go.WideShapes Go.ChangeAt Go.RowKit
set_option linter.unusedVariables false
attribute [local go_sem ↓] Go.wp_at_zero Go.wp_at_succ

set_option maxHeartbeats 8000000 in
set_option maxRecDepth 100000 in
theorem cachePut_i_no2 (A : Option Addr) (c : Nat) (xss : List (List Int)) (κ : Nat) (q : List Int) (a : Int) (ys : List (List Int)) (w : World) {B : Nat} (hr : Rd2 iv w B A xss) (hn : Rows xss) (hv : hasL xss κ = true) (hlt : κ < xss.length) (hq : q = xss[κ]) (hys : ys = xss.set κ (q ++ [a])) (hok : cOkB ys = false) :
    Calls Try.prog 15 #[.agg #[.slice A xss.length c], .int .i64 κ, .int .i64 a] w (MadePut xss false w) := by
  have i0 : (0 : Int) ≤ (κ : Int) := by omega
  have i1 : (κ : Int) < (xss.length : Int) := by omega
  have hr0 := hr.lt
  obtain ⟨b, off, R0, cr, rfl, -, hc, hrq⟩ := hr.lt.row hlt
  have hbl := lt_of_cell' hc
  have hqm := hn.2 _ (List.getElem_mem hlt)
  have HQ := Lib.hid hq
  rw [← hq] at hc hrq hqm
  have hq8 : q.length ≤ 8 := by rw [hq]; exact hasL_row hv
  have hyl : ys.length = xss.length := by rw [hys, List.length_set]
  have hyr : Rows ys := by rw [hys]; exact rows_set hn (by simp; omega)
  have HYS := Lib.hid hys
  have HYL := Lib.hid hyl
  clear hq hys hyl
  go_enter Try.func15, Try.ntmps15
  go_wp2_with fail
  refine (hasList_i _ _ _ _ _ ((hr.alloc _).alloc _) hn true hv).mono ?_
  rintro e u1 ⟨rfl, hb1⟩
  replace hr := ((hr.alloc _).alloc _).below hb1
  have q0 : u1.cell? ⟨w.heap.size, 0, none⟩ = some (.slice (some ⟨b, off, none⟩) xss.length c) := keep hb1 (by simp [go_sem])
  have f0 : Cl u1 ⟨w.heap.size + 1, 0, none⟩ (.slice none 0 0) := Cl.below (by constructor <;> simp [go_sem]) hb1
  have hz1 := hb1.size
  try simp only [World.size_alloc, World.size_drew] at hz1
  have lq0 := lt_of_cell' q0
  have f0c := f0.1
  have f0f := f0.2
  have lf0 := lt_of_cell' f0c
  clear hv
  go_wp2_with fail
  refine (copyCache_i _ _ _ _ hr hn).mono ?_
  rintro e u2 ⟨A1, c1, rfl, hcp, hO, hb2⟩
  clear lq0
  clear f0c f0f
  clear lf0
  replace hr := hr.below hb2
  replace q0 := keep hb2 q0
  replace f0 := f0.below hb2
  have hz2 := hb2.size
  try simp only [World.size_alloc, World.size_drew] at hz2
  have lq0 := lt_of_cell' q0
  have f0c := f0.1
  have f0f := f0.2
  have lf0 := lt_of_cell' f0c
  replace hO := hO.mono (lo' := w.heap.size + 2) (by first | omega | (simp only [World.size_alloc]; omega))
  go_wp2_with fail
  have hbU : Below u2.heap.size u2 (u2.alloc (.cells #[.slice A1 xss.length c1] 28)) := (Below.refl _ _).alloc (Nat.le_refl _) _
  have o0 : (u2.alloc (.cells #[.slice A1 xss.length c1] 28)).cell? ⟨u2.heap.size, 0, none⟩ = some (.slice A1 xss.length c1) := by simp [go_sem]
  have hzU : u2.heap.size + 1 ≤ (u2.alloc (.cells #[.slice A1 xss.length c1] 28)).heap.size := by simp
  generalize u2.alloc (.cells #[.slice A1 xss.length c1] 28) = U at *
  clear lq0
  clear f0c f0f
  clear lf0
  replace hr := hr.below hbU
  replace q0 := keep hbU q0
  replace f0 := f0.below hbU
  replace hO := hO.below hbU
  obtain ⟨b1, off1, hd, rfl, hb1lo, hb1hi, hRow, hhi, hL⟩ := hO.open_ (by omega)
  have hcl := hL.cell κ hlt
  have hrk := hL.row κ hlt
  rw [← HQ.out] at hcl hrk
  obtain ⟨t0, ht, tz0, tz1, tz2⟩ := info_parts infoInt
  obtain ⟨R, hR⟩ : ∃ R, R = (hd κ).1 := ⟨_, rfl⟩
  obtain ⟨cp, hcp'⟩ : ∃ cp, cp = (hd κ).2 := ⟨_, rfl⟩
  rw [← hR, ← hcp'] at hcl hrk
  have HR := Lib.hid hR
  clear hR hcp'
  have hapt : ∀ x, (∃ o, R = some ⟨x, o, none⟩) → w.heap.size + 2 ≤ x ∧ x < u2.heap.size := fun x hx => hRow κ x hlt (by rw [← HR.out]; exact hx)
  have hapb : ¬ ∃ o, R = some ⟨b1, o, none⟩ := fun hx => hL.out κ hlt (by rw [← HR.out]; exact hx)
  have hapw : ∀ x, (∃ o, R = some ⟨x, o, none⟩) → w.heap.size ≤ x := fun x hx => by have := hapt x hx; omega
  have o0d : U.drew.cell? ⟨u2.heap.size, 0, none⟩ = some (.slice (some ⟨b1, off1, none⟩) xss.length c1) := o0
  have hgl := lt_of_cell' o0
  have hcd : U.drew.cell? ⟨b1, off1 + κ, none⟩ = some (.slice R q.length cp) := hcl.1
  have hca : (U.alloc (.cells #[.int .i64 a] 3)).cell? ⟨b1, off1 + κ, none⟩ = some (.slice R q.length cp) := cell_al hcl.1 _
  have hcl4 := Cl.alloc (w := U.drew) hcl (.cells #[.int .i64 a] 3)
  have hrd : (U.drew.alloc (.cells #[.int .i64 a] 3)).ownsRow (w.heap.size + 2) 3 1 (.slice R q.length cp) q.length (iv q) := own_below' (w := U.drew) hrk ((Below.refl _ _).alloc (Nat.le_refl _) _)
  have o0a : (U.alloc (.cells #[.int .i64 a] 3)).cell? ⟨u2.heap.size, 0, none⟩ = some (.slice (some ⟨b1, off1, none⟩) xss.length c1) := cell_al (show U.cell? _ = _ from o0) _
  go_region_law (first | (refine step_append_ow (by rfl) (.tmp 24) (.tmp 26) _ (by rfl) 3 t0 (.int .i64 0) 1 8 Try.underlying24 ht tz0 tz1 tz2 (by rfl) (by omega) (w.heap.size + 2) R q.length cp (iv q) (by rfl) hrd (some ⟨U.heap.size, 0, none⟩) 1 1 (iv [a]) (by rfl) (by rfl) (Rd.lit (by rfl)) (iv_one _) (by unfold maxLen; omega) (by omega) (by simp; omega) ?_; intro A4 c4 w4 hO4 hS4 hA4; have o04 := hS4.cell (cell_al o0d _) (fun hx => by have := (hapt _ hx).2; dsimp only at this; omega); have hcl5 := hcl4.outS hS4 hapb; have hcl5c := hcl5.1; have hcl5f := hcl5.2))
  all_goals
    have hz4 := hS4.size
    simp only [World.size_alloc, World.size_drew] at hz4
    have hS5 : OutS (At (hd κ).1) U w4 := OutS.trans (OutS.of_below ((Below.drew (Below.refl _ _)).alloc (Nat.le_refl _) (.cells #[.int .i64 a] 3))) (hS4.mono fun x hx => by rw [← HR.out]; exact hx)
    have hA4l : ∀ x, At A4 x → x < w4.heap.size := fun x hx => (own_lo' hO4 hx).2
    have hW4 := own_wr hO4
    rw [← iv_app] at hW4
    have hU := L2.upd (T := At A4) (A' := A4) (n' := q.length + 1) (c' := c4) (xs' := q ++ [a]) hL hb1lo hb1hi hRow hhi hlt hS5 (by simp) hW4 (fun x hx => ⟨by rcases at_of hA4 hx with h | h; exact .inl (by rw [← HR.out]; exact h); exact .inr (by simp only [World.size_alloc, World.size_drew] at h; omega), hA4l x hx⟩)
    rw [← HYS.out] at hU
    replace hU := hU.new (lo := w.heap.size + 2) (hi := w4.heap.size) (fun x hx => by omega)
    have hbS : Below w.heap.size w (w4.setCell ⟨b1, off1 + κ, none⟩ (.slice A4 (q.length + 1) c4)) := by
      have hbA : Below w.heap.size w U := by (repeat' (first | (with_reducible exact Below.refl _ _) | (with_reducible refine bel_alloc ?_ ?_ _) | (with_reducible refine Below.setCell ?_ ?_ _) | (with_reducible refine below_drewN ?_ _) | (with_reducible refine Below.drew ?_) | (with_reducible refine bel_step hb1 ?_ ?_) | (with_reducible refine bel_step hb2 ?_ ?_) | (with_reducible refine bel_step hbU ?_ ?_) | (with_reducible exact Nat.le_refl _) | (with_reducible assumption) | omega | (simp only [World.size_alloc, World.size_setCell, World.size_drew]; omega) | (simp; omega) | (simp; done)))
      exact (bel_outS hS4 hapw (bel_alloc (Below.drew hbA) (Nat.le_refl _) _) (Nat.le_refl _)).setCell (by show w.heap.size ≤ b1; omega) _
    replace q0 := set_other (b' := b1) (o' := off1 + κ) (u := .slice A4 (q.length + 1) c4) (hS4.cell (cell_al (w := U.drew) q0 (.cells #[.int .i64 a] 3)) (fun hx => by have := (hapt _ hx).1; dsimp only at this; omega)) (by omega)
    replace o0 := set_other (b' := b1) (o' := off1 + κ) (u := .slice A4 (q.length + 1) c4) o04 (by omega)
    replace f0 := (Cl.outS (Cl.alloc (w := U.drew) f0 (.cells #[.int .i64 a] 3)) hS4 (fun hx => by have := (hapt _ hx).1; dsimp only at this; omega)).other (q := ⟨b1, off1 + κ, none⟩) (.slice A4 (q.length + 1) c4) (by simp <;> omega)
    have hzV : w4.heap.size = (w4.setCell ⟨b1, off1 + κ, none⟩ (.slice A4 (q.length + 1) c4)).heap.size := by simp
    replace hr := hr0.below hbS
    clear o0d o0a hgl hcd hca hcl4 hrd o04 hcl5 hcl5c hcl5f hO4 hS4 hA4 hS5 hA4l hW4 hL hcl hrk hapt hapb hapw hO
    rw [hzV] at hU
    generalize w4.setCell ⟨b1, off1 + κ, none⟩ (.slice A4 (q.length + 1) c4) = V3 at *
    have hbV := hbS
    have CO := fun W (h : Rd2 iv W W.heap.size (some ⟨b1, off1, none⟩) ys) => cacheOk_i (some ⟨b1, off1, none⟩) c1 ys W h hyr _ rfl
    rw [HYL.out, hok] at CO
    have CO := Lib.hid CO
    have lq0 := lt_of_cell' q0
    have lo0 := lt_of_cell' o0
    have f0c := f0.1
    have f0f := f0.2
    have lf0 := lt_of_cell' f0c
    clear hok
    go_wp2_with fail
    refine (CO.out _ hU.rd).mono ?_
    rintro e u6 ⟨rfl, hb6⟩
    clear lq0 lo0
    clear f0c f0f
    clear lf0
    replace q0 := keep hb6 q0
    replace f0 := f0.below hb6
    replace o0 := keep hb6 o0
    replace hr := hr.below hb6
    replace hU := hU.below hb6
    have hz6 := hb6.size
    try simp only [World.size_alloc, World.size_drew] at hz6
    have lq0 := lt_of_cell' q0
    have lo0 := lt_of_cell' o0
    have f0c := f0.1
    have f0f := f0.2
    have lf0 := lt_of_cell' f0c
    go_wp2_with fail
    refine (copyCache_i _ _ _ _ hr hn).mono ?_
    rintro e u7 ⟨A9, c9, rfl, hcp9, hO9, hb7⟩
    clear lq0 lo0
    clear f0c f0f
    clear lf0
    replace q0 := keep hb7 q0
    replace f0 := f0.below hb7
    replace o0 := keep hb7 o0
    replace hr := hr.below hb7
    replace hU := hU.below hb7
    have hz7 := hb7.size
    try simp only [World.size_alloc, World.size_drew] at hz7
    have lq0 := lt_of_cell' q0
    have lo0 := lt_of_cell' o0
    have f0c := f0.1
    have f0f := f0.2
    have lf0 := lt_of_cell' f0c
    have HW := Lib.hid hO9.wr2
    go_wp2
    refine bodyPost_ret (v := .tuple #[.agg #[.slice A9 xss.length c9], .bool false]) (by simp [results, Try.results15, go_sem, f0c]) rfl ⟨A9, c9, fun x => u6.heap.size ≤ x ∧ x < u7.heap.size, rfl, ?_, ?_, ?_⟩
    · exact HW.out.setOut _ (fun h => by have := h.1; omega)
    · intro b hb
      have h1 := hb.1
      have h2 := hb.2
      simp only [World.size_setCell]
      omega
    · (repeat' (first | (with_reducible exact Below.refl _ _) | (with_reducible refine bel_alloc ?_ ?_ _) | (with_reducible refine Below.setCell ?_ ?_ _) | (with_reducible refine below_drewN ?_ _) | (with_reducible refine Below.drew ?_) | (with_reducible refine bel_step hbV ?_ ?_) | (with_reducible refine bel_step hb6 ?_ ?_) | (with_reducible refine bel_step hb7 ?_ ?_) | (with_reducible exact Nat.le_refl _) | (with_reducible assumption) | omega | (simp only [World.size_alloc, World.size_setCell, World.size_drew]; omega) | (simp; omega) | (simp; done)))
end Go.Proofs.Ytmfomflmbhognaa
