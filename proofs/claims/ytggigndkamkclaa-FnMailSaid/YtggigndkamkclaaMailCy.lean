/- Send of the reference, with capacities. -/
import Derived.Test.YtggigndkamkclaaMailC
import Derived.Deep.RegionHeld3
import Derived.Deep.RegionLaw
import Derived.Deep.DrawnRows
import Derived.Deep.DeepCutAuto
namespace Go.Proofs.Ytggigndkamkclaa
open Go.ChangeShapes Go.WideShapes Go.ChangeAt Go.RowKit
set_option linter.unusedVariables false
set_option linter.unusedSimpArgs false
attribute [local go_sem ↓] Go.wp_at_zero Go.wp_at_succ

set_option maxHeartbeats 8000000 in
set_option maxRecDepth 100000 in
theorem send_s_yes_c (A : Option Addr) (c : Nat) (B : Option Addr) (d : Nat) (xss : List (List Po)) (yss : List (List Int)) (κ : Nat) (q : List Po) (px py : Int) (zs : List (List Po)) (w : World) {B1 B2 : Nat} (hr : Rd2 pv w B1 A xss) (hs : Rd2 iv w B2 B yss) (hn : Rows xss ∧ Rows yss) (hv : hasTh xss yss κ = true) (hlt : κ < xss.length) (hq : q = xss[κ]) (hq30 : q.length ≤ 30) (hzs : zs = xss.set κ (q ++ [(px, py)])) (hok : mOkB zs yss = true) :
    Calls Try.prog 34 #[.agg #[.slice A xss.length c, .slice B yss.length d], .int .i64 κ, .agg #[.int .i64 px, .int .i64 py]] w (MadeMBc zs yss true w) := by
  have i0 : (0 : Int) ≤ (κ : Int) := by omega
  have i1 : (κ : Int) < (xss.length : Int) := by omega
  obtain ⟨b, off, R0, cr, rfl, -, hc, hrq⟩ := hr.lt.row hlt
  have hbl := lt_of_cell' hc
  have hqm := hn.1.2 _ (List.getElem_mem hlt)
  have HQ := Lib.hid hq
  rw [← hq] at hc hrq hqm
  have hyl : zs.length = xss.length := by rw [hzs, List.length_set]
  have hyr : Rows zs := by rw [hzs]; exact rows_set hn.1 (by simp; omega)
  have HYS := Lib.hid hzs
  have HYL := Lib.hid hyl
  have hr0 := hr.lt
  have hs0 := hs.lt
  clear hq hzs hyl
  go_enter Try.func34, Try.ntmps34
  go_wp2_with fail
  refine (l18Copy_s _ _ _ _ _ _ _ (((hr.alloc _).alloc _).alloc _) (((hs.alloc _).alloc _).alloc _) hn).mono ?_
  rintro e u1 ⟨A1, c1, C1, d1, mid, rfl, hcA, hcB, hOA, hOB, hm1, hm2, hb1⟩
  replace hr := (((hr.alloc _).alloc _).alloc _).below hb1
  replace hs := (((hs.alloc _).alloc _).alloc _).below hb1
  have q0 : u1.cell? ⟨w.heap.size, 0, none⟩ = some (.slice (some ⟨b, off, none⟩) xss.length c) := keep hb1 (by simp [go_sem])
  have q1 : u1.cell? ⟨w.heap.size, 1, none⟩ = some (.slice B yss.length d) := keep hb1 (by simp [go_sem])
  have p0 : u1.cell? ⟨w.heap.size + 1, 0, none⟩ = some (.int .i64 px) := keep hb1 (by simp [go_sem])
  have p1 : u1.cell? ⟨w.heap.size + 1, 1, none⟩ = some (.int .i64 py) := keep hb1 (by simp [go_sem])
  have f0 : Cl u1 ⟨w.heap.size + 1 + 1, 0, none⟩ (.slice none 0 0) := Cl.below (by constructor <;> simp [go_sem]) hb1
  have f1 : Cl u1 ⟨w.heap.size + 1 + 1, 1, none⟩ (.slice none 0 0) := Cl.below (by constructor <;> simp [go_sem]) hb1
  have hz1 := hb1.size
  try simp only [World.size_alloc, World.size_drew] at hz1
  have lq0 := lt_of_cell' q0
  have lp0 := lt_of_cell' p0
  have f0c := f0.1
  have f0f := f0.2
  have lf0 := lt_of_cell' f0c
  have f1c := f1.1
  have f1f := f1.2
  replace hOA := hOA.mono (lo' := w.heap.size + 3) (by first | omega | (simp only [World.size_alloc]; omega))
  try simp only [World.size_alloc] at hm1
  go_wp2_with fail
  refine (l18Is_s _ _ _ _ _ _ _ _ (hr.alloc _) (hs.alloc _) hn true hv).mono ?_
  rintro e u2 ⟨rfl, hb2⟩
  clear lq0 lp0
  clear f0c f0f f1c f1f
  clear lf0
  replace hr := (hr.alloc _).below hb2
  replace hs := (hs.alloc _).below hb2
  replace q0 := keep hb2 (cell_al q0 _)
  replace q1 := keep hb2 (cell_al q1 _)
  replace p0 := keep hb2 (cell_al p0 _)
  replace p1 := keep hb2 (cell_al p1 _)
  replace f0 := (f0.alloc _).below hb2
  replace f1 := (f1.alloc _).below hb2
  replace hOA := (hOA.alloc _).below hb2
  replace hOB := (hOB.alloc _).below hb2
  have o0 : u2.cell? ⟨u1.heap.size, 0, none⟩ = some (.slice A1 xss.length c1) := keep hb2 (by simp [go_sem])
  have o1 : u2.cell? ⟨u1.heap.size, 1, none⟩ = some (.slice C1 yss.length d1) := keep hb2 (by simp [go_sem])
  have hz2 := hb2.size
  try simp only [World.size_alloc, World.size_drew] at hz2
  have lq0 := lt_of_cell' q0
  have lp0 := lt_of_cell' p0
  have lo0 := lt_of_cell' o0
  have f0c := f0.1
  have f0f := f0.2
  have lf0 := lt_of_cell' f0c
  have f1c := f1.1
  have f1f := f1.2
  clear hv
  go_wp2_with fail
  clear lq0 lp0 lo0
  clear f0c f0f f1c f1f
  clear lf0
  obtain ⟨b1, off1, hd, rfl, hb1lo, hb1hi, hRow, hhi, hL⟩ := hOA.open_ (by omega)
  have hcl := hL.cell κ hlt
  have hrk := hL.row κ hlt
  rw [← HQ.out] at hcl hrk
  obtain ⟨R, hR⟩ : ∃ R, R = (hd κ).1 := ⟨_, rfl⟩
  obtain ⟨cp, hcp'⟩ : ∃ cp, cp = (hd κ).2 := ⟨_, rfl⟩
  rw [← hR, ← hcp'] at hcl hrk
  have HR := Lib.hid hR
  clear hR hcp'
  have hapt : ∀ x, (∃ o, R = some ⟨x, o, none⟩) → w.heap.size + 3 ≤ x ∧ x < mid := fun x hx => hRow κ x hlt (by rw [← HR.out]; exact hx)
  have hapb : ¬ ∃ o, R = some ⟨b1, o, none⟩ := fun hx => hL.out κ hlt (by rw [← HR.out]; exact hx)
  have hapw : ∀ x, (∃ o, R = some ⟨x, o, none⟩) → w.heap.size ≤ x := fun x hx => by have := hapt x hx; omega
  obtain ⟨t0, ht, tz0, tz1, tz2⟩ := info_parts infoPost
  have o0d : u2.drew.cell? ⟨u1.heap.size, 0, none⟩ = some (.slice (some ⟨b1, off1, none⟩) xss.length c1) := o0
  have o0a : (u2.alloc (.cells #[.int .i64 px, .int .i64 py] 34)).cell? ⟨u1.heap.size, 0, none⟩ = some (.slice (some ⟨b1, off1, none⟩) xss.length c1) := cell_al o0 _
  have hgl := lt_of_cell' o0
  have hcd : u2.drew.cell? ⟨b1, off1 + κ, none⟩ = some (.slice R q.length cp) := hcl.1
  have hca : (u2.alloc (.cells #[.int .i64 px, .int .i64 py] 34)).cell? ⟨b1, off1 + κ, none⟩ = some (.slice R q.length cp) := cell_al hcl.1 _
  have hcl4 := Cl.alloc (w := u2.drew) hcl (.cells #[.int .i64 px, .int .i64 py] 34)
  have hrd : (u2.drew.alloc (.cells #[.int .i64 px, .int .i64 py] 34)).ownsRow (w.heap.size + 3) 34 2 (.slice R q.length cp) q.length (pv q) := own_below' (w := u2.drew) hrk ((Below.refl _ _).alloc (Nat.le_refl _) _)
  go_region_law (first | (refine step_append_ow (by rfl) (.tmp 23) (.tmp 25) _ (by rfl) 34 t0 (.agg #[.int .i64 0, .int .i64 0]) 2 16 Try.underlying49 ht tz0 tz1 tz2 (by rfl) (by omega) (w.heap.size + 3) R q.length cp (pv q) (by rfl) hrd (some ⟨u2.heap.size, 0, none⟩) 1 1 (pv [(px, py)]) (by rfl) (by rfl) (Rd.lit (by rfl)) (pv_one _) (by unfold maxLen; omega) (by omega) (by simp; omega) ?_; intro A4 c4 w4 hO4 hS4 hA4; have o04 := hS4.cell (cell_al o0d _) (fun hx => by have := (hapt _ hx).2; dsimp only at this; omega); have hcl5 := hcl4.outS hS4 hapb; have hcl5c := hcl5.1; have hcl5f := hcl5.2))
  all_goals
    have hz4 := hS4.size
    simp only [World.size_alloc, World.size_drew] at hz4
    have hS5 : OutS (At (hd κ).1) u2 w4 := OutS.trans (OutS.of_below ((Below.drew (Below.refl _ _)).alloc (Nat.le_refl _) (.cells #[.int .i64 px, .int .i64 py] 34))) (hS4.mono fun x hx => by rw [← HR.out]; exact hx)
    have hA4l : ∀ x, At A4 x → x < w4.heap.size := fun x hx => (own_lo' hO4 hx).2
    have hW4 := own_wr hO4
    rw [← pv_app] at hW4
    have hU := L2.upd (T := At A4) (A' := A4) (n' := q.length + 1) (c' := c4) (xs' := q ++ [(px, py)]) hL hb1lo hb1hi hRow hhi hlt hS5 (by simp) hW4 (fun x hx => ⟨by rcases at_of hA4 hx with h | h; exact .inl (by rw [← HR.out]; exact h); exact .inr (by simp only [World.size_alloc, World.size_drew] at h; omega), hA4l x hx⟩)
    rw [← HYS.out] at hU
    have hbS : Below w.heap.size w (w4.setCell ⟨b1, off1 + κ, none⟩ (.slice A4 (q.length + 1) c4)) := by
      have hbA : Below w.heap.size w u2 := by (repeat' (first | (with_reducible exact Below.refl _ _) | (with_reducible refine bel_alloc ?_ ?_ _) | (with_reducible refine Below.setCell ?_ ?_ _) | (with_reducible refine below_drewN ?_ _) | (with_reducible refine Below.drew ?_) | (with_reducible refine bel_step hb1 ?_ ?_) | (with_reducible refine bel_step hb2 ?_ ?_) | (with_reducible exact Nat.le_refl _) | (with_reducible assumption) | omega | (simp only [World.size_alloc, World.size_setCell, World.size_drew]; omega) | (simp; omega) | (simp; done)))
      exact (bel_outS hS4 hapw (bel_alloc (Below.drew hbA) (Nat.le_refl _) _) (Nat.le_refl _)).setCell (by show w.heap.size ≤ b1; omega) _
    replace q0 := set_other (b' := b1) (o' := off1 + κ) (u := .slice A4 (q.length + 1) c4) (hS4.cell (cell_al (w := u2.drew) q0 (.cells #[.int .i64 px, .int .i64 py] 34)) (fun hx => by have := (hapt _ hx).1; dsimp only at this; omega)) (by omega)
    replace q1 := set_other (b' := b1) (o' := off1 + κ) (u := .slice A4 (q.length + 1) c4) (hS4.cell (cell_al (w := u2.drew) q1 (.cells #[.int .i64 px, .int .i64 py] 34)) (fun hx => by have := (hapt _ hx).1; dsimp only at this; omega)) (by omega)
    replace o0 := set_other (b' := b1) (o' := off1 + κ) (u := .slice A4 (q.length + 1) c4) o04 (by omega)
    replace o1 := set_other (b' := b1) (o' := off1 + κ) (u := .slice A4 (q.length + 1) c4) (hS4.cell (cell_al (w := u2.drew) o1 (.cells #[.int .i64 px, .int .i64 py] 34)) (fun hx => by have := (hapt _ hx).2; dsimp only at this; omega)) (by omega)
    replace f0 := (Cl.outS (Cl.alloc (w := u2.drew) f0 (.cells #[.int .i64 px, .int .i64 py] 34)) hS4 (fun hx => by have := (hapt _ hx).1; dsimp only at this; omega)).other (q := ⟨b1, off1 + κ, none⟩) (.slice A4 (q.length + 1) c4) (by simp <;> omega)
    replace f1 := (Cl.outS (Cl.alloc (w := u2.drew) f1 (.cells #[.int .i64 px, .int .i64 py] 34)) hS4 (fun hx => by have := (hapt _ hx).1; dsimp only at this; omega)).other (q := ⟨b1, off1 + κ, none⟩) (.slice A4 (q.length + 1) c4) (by simp <;> omega)
    replace hOB := ((hOB.drew.alloc (.cells #[.int .i64 px, .int .i64 py] 34)).outS hS4 (fun x h1 h2 hx => by have := (hapt x hx).2; omega)).setOut (g := b1) (o := off1 + κ) (.slice A4 (q.length + 1) c4) (.inl (by omega))
    have hzV : w4.heap.size = (w4.setCell ⟨b1, off1 + κ, none⟩ (.slice A4 (q.length + 1) c4)).heap.size := by simp
    replace hr := hr0.below hbS
    replace hs := hs0.below hbS
    clear o0d o0a hgl hcd hca hcl4 hrd o04 hcl5 hcl5c hcl5f hO4 hS4 hA4 hS5 hA4l hW4 hL hcl hrk hapt hapb hapw hOA p0 p1
    rw [hzV] at hU hz4
    generalize w4.setCell ⟨b1, off1 + κ, none⟩ (.slice A4 (q.length + 1) c4) = V3 at *
    have hbV := hbS
    have HUU := Lib.hid (show u2.heap.size + 1 ≤ V3.heap.size ∧ u1.heap.size ≤ u2.heap.size by omega)
    have CO := fun W (h : Rd2 pv W W.heap.size (some ⟨b1, off1, none⟩) zs) (h' : Rd2 iv W W.heap.size C1 yss) => mailOk_s (some ⟨b1, off1, none⟩) c1 C1 d1 zs yss W h h' ⟨hyr, hn.2⟩ _ rfl
    rw [HYL.out, hok] at CO
    have CO := Lib.hid CO
    have lq0 := lt_of_cell' q0
    have lo0 := lt_of_cell' o0
    have f0c := f0.1
    have f0f := f0.2
    have lf0 := lt_of_cell' f0c
    have f1c := f1.1
    have f1f := f1.2
    clear hok
    go_wp2_with fail
    refine (CO.out _ hU.rd hOB.rd2).mono ?_
    rintro e u6 ⟨rfl, hb6⟩
    clear lq0 lo0
    clear f0c f0f f1c f1f
    clear lf0
    replace q0 := keep hb6 q0
    replace q1 := keep hb6 q1
    replace f0 := f0.below hb6
    replace f1 := f1.below hb6
    replace hOB := hOB.below hb6
    replace o0 := keep hb6 o0
    replace o1 := keep hb6 o1
    replace hr := hr.below hb6
    replace hs := hs.below hb6
    replace hU := hU.below hb6
    have hz6 := hb6.size
    try simp only [World.size_alloc, World.size_drew] at hz6
    have lq0 := lt_of_cell' q0
    have lo0 := lt_of_cell' o0
    have f0c := f0.1
    have f0f := f0.2
    have lf0 := lt_of_cell' f0c
    have f1c := f1.1
    have f1f := f1.2
    have CY := fun W (h : Rd2 pv W W.heap.size (some ⟨b1, off1, none⟩) zs) (h' : Rd2 iv W W.heap.size C1 yss) => l18Copy_s (some ⟨b1, off1, none⟩) c1 C1 d1 zs yss W h h' ⟨hyr, hn.2⟩
    rw [HYL.out] at CY
    go_wp2_with fail
    refine (CY _ hU.rd hOB.rd2).mono ?_
    rintro e u7 ⟨A9, c9, C9, d9, mid9, rfl, hcA9, hcB9, hA9, hB9, hm19, hm29, hb7⟩
    clear lq0 lo0
    clear f0c f0f f1c f1f
    clear lf0
    replace q0 := keep hb7 q0
    replace q1 := keep hb7 q1
    replace f0 := f0.below hb7
    replace f1 := f1.below hb7
    replace hOB := hOB.below hb7
    replace o0 := keep hb7 o0
    replace o1 := keep hb7 o1
    replace hr := hr.below hb7
    replace hs := hs.below hb7
    replace hU := hU.below hb7
    have hz7 := hb7.size
    try simp only [World.size_alloc, World.size_drew] at hz7
    have lq0 := lt_of_cell' q0
    have lo0 := lt_of_cell' o0
    have f0c := f0.1
    have f0f := f0.2
    have lf0 := lt_of_cell' f0c
    have f1c := f1.1
    have f1f := f1.2
    have HW1 := Lib.hid hA9.wr2c
    have HW2 := Lib.hid hB9.wr2
    have hN1 : ∀ b, (u6.heap.size ≤ b ∧ b < mid9) → (u6.heap.size ≤ b ∧ b < mid9) := fun _ h => h
    have hN2 : ∀ b, (mid9 ≤ b ∧ b < u7.heap.size) → (mid9 ≤ b ∧ b < u7.heap.size) := fun _ h => h
    go_wp2
    refine bodyPost_ret (v := .tuple #[.agg #[.slice A9 zs.length c9, .slice C9 yss.length d9], .bool true]) (by simp [results, Try.results34, go_sem, f0c, f1c]) rfl ⟨_, c9, _, d9, (fun x => u6.heap.size ≤ x ∧ x < mid9), (fun x => mid9 ≤ x ∧ x < u7.heap.size), rfl, ?_, ?_, ?_, ?_, fun b h1 h2 => by omega, ?_⟩
    · exact by (repeat' (first | (with_reducible exact HW1.out) | (with_reducible refine Wr2c.setOut ?_ _ (fun h => by have := hN1 _ h; first | omega | (simp at this; omega))) | (with_reducible refine Wr2c.alloc ?_ _) | (with_reducible refine Wr2c.drewN ?_ _) | (with_reducible refine Wr2c.drew ?_)))
    · exact by (repeat' (first | (with_reducible exact HW2.out) | (with_reducible refine Wr2.setOut ?_ _ (fun h => by have := hN2 _ h; first | omega | (simp at this; omega))) | (with_reducible refine Wr2.alloc ?_ _) | (with_reducible refine Wr2.drewN ?_ _) | (with_reducible refine Wr2.drew ?_)))
    · intro b hb
      simp only [World.size_setCell, World.size_alloc, World.size_drew]
      omega
    · intro b hb
      simp only [World.size_setCell, World.size_alloc, World.size_drew]
      omega
    · (repeat' (first | (with_reducible exact Below.refl _ _) | (with_reducible refine bel_alloc ?_ ?_ _) | (with_reducible refine Below.setCell ?_ ?_ _) | (with_reducible refine below_drewN ?_ _) | (with_reducible refine Below.drew ?_) | (with_reducible refine bel_step hbV ?_ ?_) | (with_reducible refine bel_step hb6 ?_ ?_) | (with_reducible refine bel_step hb7 ?_ ?_) | (with_reducible exact Nat.le_refl _) | (with_reducible assumption) | omega | (simp only [World.size_alloc, World.size_setCell, World.size_drew]; omega) | (simp; omega) | (simp; done)))
end Go.Proofs.Ytggigndkamkclaa
