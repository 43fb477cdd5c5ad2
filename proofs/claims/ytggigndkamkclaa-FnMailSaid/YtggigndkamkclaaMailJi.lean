/- Collect. -/
import Derived.Test.YtggigndkamkclaaMailJ
import Derived.Deep.RegionHeld3
import Derived.Deep.DrawnRows
namespace Go.Proofs.Ytggigndkamkclaa
open Go.ChangeShapes Go.WideShapes Go.ChangeAt Go.RowKit
set_option linter.unusedVariables false
attribute [local go_sem ↓] Go.wp_at_zero Go.wp_at_succ

set_option maxHeartbeats 8000000 in
set_option maxRecDepth 100000 in
theorem collect_i_yes (A : Option Addr) (c : Nat) (B : Option Addr) (d : Nat) (xss : List (List Po)) (yss : List (List Int)) (κ : Nat) (q : List Int) (w : World) {B1 B2 : Nat} (hr : Rd2 pv w B1 A xss) (hs : Rd2 iv w B2 B yss) (hn : Rows xss ∧ Rows yss) (hv : hasTh xss yss κ = true) (hlt : κ < yss.length) (hq : q = yss[κ]) :
    Calls Try.prog 16 #[.agg #[.slice A xss.length c, .slice B yss.length d], .int .i64 κ] w (MadeMI xss (yss.set κ []) q w) := by
  have i0 : (0 : Int) ≤ (κ : Int) := by omega
  have i1 : (κ : Int) < (yss.length : Int) := by omega
  obtain ⟨b, off, R0, cr, rfl, -, hc, hrq⟩ := hs.lt.row hlt
  have hbl := lt_of_cell' hc
  have hqm := hn.2.2 _ (List.getElem_mem hlt)
  have HQ := Lib.hid hq
  rw [← hq] at hc hrq hqm
  clear hq
  go_enter Try.func16, Try.ntmps16
  go_wp2_with fail
  refine (copyMail_i _ _ _ _ _ _ _ ((hr.alloc _).alloc _) ((hs.alloc _).alloc _) hn).mono ?_
  rintro e u1 ⟨A1, c1, C1, d1, mid, rfl, hcA, hcB, hOA, hOB, hm1, hm2, hb1⟩
  replace hr := ((hr.alloc _).alloc _).below hb1
  replace hs := ((hs.alloc _).alloc _).below hb1
  replace hc := keep hb1 (cell_al (cell_al hc _) _)
  have q0 : u1.cell? ⟨w.heap.size, 0, none⟩ = some (.slice A xss.length c) := keep hb1 (by simp [go_sem])
  have q1 : u1.cell? ⟨w.heap.size, 1, none⟩ = some (.slice (some ⟨b, off, none⟩) yss.length d) := keep hb1 (by simp [go_sem])
  have f0 : Cl u1 ⟨w.heap.size + 1, 0, none⟩ (.slice none 0 0) := Cl.below (by constructor <;> simp [go_sem]) hb1
  have f1 : Cl u1 ⟨w.heap.size + 1, 1, none⟩ (.slice none 0 0) := Cl.below (by constructor <;> simp [go_sem]) hb1
  have hz1 := hb1.size
  try simp only [World.size_alloc, World.size_drew] at hz1
  have lq0 := lt_of_cell' q0
  have f0c := f0.1
  have f0f := f0.2
  have lf0 := lt_of_cell' f0c
  have f1c := f1.1
  have f1f := f1.2
  replace hOA := hOA.mono (lo' := w.heap.size + 2) (by first | omega | (simp only [World.size_alloc]; omega))
  try simp only [World.size_alloc] at hm1
  go_wp2_with fail
  refine (hasThread_i _ _ _ _ _ _ _ _ (hr.alloc _) (hs.alloc _) hn true hv).mono ?_
  rintro e u2 ⟨rfl, hb2⟩
  clear lq0
  clear f0c f0f f1c f1f
  clear lf0
  replace hr := (hr.alloc _).below hb2
  replace hs := (hs.alloc _).below hb2
  replace hc := keep hb2 (cell_al hc _)
  replace q0 := keep hb2 (cell_al q0 _)
  replace q1 := keep hb2 (cell_al q1 _)
  replace f0 := (f0.alloc _).below hb2
  replace f1 := (f1.alloc _).below hb2
  replace hOA := (hOA.alloc _).below hb2
  replace hOB := (hOB.alloc _).below hb2
  have o0 : u2.cell? ⟨u1.heap.size, 0, none⟩ = some (.slice A1 xss.length c1) := keep hb2 (by simp [go_sem])
  have o1 : u2.cell? ⟨u1.heap.size, 1, none⟩ = some (.slice C1 yss.length d1) := keep hb2 (by simp [go_sem])
  have hz2 := hb2.size
  try simp only [World.size_alloc, World.size_drew] at hz2
  have lq0 := lt_of_cell' q0
  have lo0 := lt_of_cell' o0
  have f0c := f0.1
  have f0f := f0.2
  have lf0 := lt_of_cell' f0c
  have f1c := f1.1
  have f1f := f1.2
  clear hv
  obtain ⟨b1, off1, hd, rfl, hb1lo, hb1hi, hRow, hhi, hL⟩ := hOB.open_ (by omega)
  have hcl := hL.cell κ hlt
  have hclc := hcl.1
  have hclf := hcl.2
  go_wp2_with fail
  have hbA : Below u2.heap.size u2 u2 := by (repeat' (first | (with_reducible exact Below.refl _ _) | (with_reducible refine bel_alloc ?_ ?_ _) | (with_reducible refine Below.setCell ?_ ?_ _) | (with_reducible refine below_drewN ?_ _) | (with_reducible refine Below.drew ?_) | (with_reducible exact Nat.le_refl _) | (with_reducible assumption) | omega | (simp only [World.size_alloc, World.size_setCell, World.size_drew]; omega) | (simp; omega) | (simp; done)))
  have hU := L2.upd (enc := iv) (T := fun _ => False) (A' := none) (n' := 0) (c' := 0) (xs' := ([] : List Int)) (hL.below hbA) hb1lo hb1hi hRow (Nat.le_trans hhi hbA.size) hlt OutS.refl rfl (.inl rfl) (fun x hx => hx.elim)
  replace hU : Wr2 iv (u2.setCell ⟨b1, off1 + κ, none⟩ (.slice none 0 0)) (fun x => mid ≤ x ∧ x < u1.heap.size) (some ⟨b1, off1, none⟩) (yss.set κ []) := hU.mono (fun x hx => by omega)
  replace hOA := (hOA.below hbA).setOut (g := b1) (o := off1 + κ) (.slice none 0 0) (by right; omega)
  have W0 := set_other (b' := b1) (o' := off1 + κ) (u := (.slice none 0 0)) (keep hbA o0) (by omega)
  have W1 := set_other (b' := b1) (o' := off1 + κ) (u := (.slice none 0 0)) (keep hbA o1) (by omega)
  have W2 := set_other (b' := b1) (o' := off1 + κ) (u := (.slice none 0 0)) (keep hbA q1) (by omega)
  have W3 := set_other (b' := b1) (o' := off1 + κ) (u := (.slice none 0 0)) (keep hbA hc) (by omega)
  have W4 := (f0.below hbA).other (q := ⟨b1, off1 + κ, none⟩) (.slice none 0 0) (by simp <;> omega)
  have W5 := (f1.below hbA).other (q := ⟨b1, off1 + κ, none⟩) (.slice none 0 0) (by simp <;> omega)
  have hzV : u2.heap.size ≤ (u2.setCell ⟨b1, off1 + κ, none⟩ (.slice none 0 0)).heap.size := by simp
  have hbS : Below w.heap.size w (u2.setCell ⟨b1, off1 + κ, none⟩ (.slice none 0 0)) := by (repeat' (first | (with_reducible exact Below.refl _ _) | (with_reducible refine bel_alloc ?_ ?_ _) | (with_reducible refine Below.setCell ?_ ?_ _) | (with_reducible refine below_drewN ?_ _) | (with_reducible refine Below.drew ?_) | (with_reducible refine bel_step hb1 ?_ ?_) | (with_reducible refine bel_step hb2 ?_ ?_) | (with_reducible exact Nat.le_refl _) | (with_reducible assumption) | omega | (simp only [World.size_alloc, World.size_setCell, World.size_drew]; omega) | (simp; omega) | (simp; done)))
  replace hrq := hrq.below hbS
  clear lq0 lo0
  clear f0c f0f f1c f1f
  clear lf0
  clear hr hs o0 o1 q0 q1 hc f0 f1 hL hcl hclc hclf hRow
  try clear hclx lb1
  clear hbA
  generalize u2.setCell ⟨b1, off1 + κ, none⟩ (.slice none 0 0) = V3 at *
  have X0 : V3.drew.cell? ⟨u1.heap.size, 0, none⟩ = some (.slice A1 xss.length c1) := W0
  have X1 : V3.drew.cell? ⟨u1.heap.size, 1, none⟩ = some (.slice (some ⟨b1, off1, none⟩) yss.length d1) := W1
  have X2 : V3.drew.cell? ⟨w.heap.size, 1, none⟩ = some (.slice (some ⟨b, off, none⟩) yss.length d) := W2
  have X3 : V3.drew.cell? ⟨b, off + κ, none⟩ = some (.slice R0 q.length cr) := W3
  have hrd : Rd V3.drew w.heap.size R0 (iv q) := hrq.drew
  have HLQ := Lib.hid (show (iv q).length = q.length * 1 by simp)
  have W4d : Cl V3.drew ⟨w.heap.size + 1, 0, none⟩ (.slice none 0 0) := W4
  have W5d : Cl V3.drew ⟨w.heap.size + 1, 1, none⟩ (.slice none 0 0) := W5
  go_region_held3 (fun w' => w'.cell? ⟨u1.heap.size, 0, none⟩ = some (.slice A1 xss.length c1) ∧ w'.cell? ⟨u1.heap.size, 1, none⟩ = some (.slice (some ⟨b1, off1, none⟩) yss.length d1) ∧ w'.cell? ⟨w.heap.size, 1, none⟩ = some (.slice (some ⟨b, off, none⟩) yss.length d) ∧ w'.cell? ⟨b, off + κ, none⟩ = some (.slice R0 q.length cr))
    (first | exact ⟨X0, X1, X2, X3⟩ | exact ⟨cell_al X0 _, cell_al X1 _, cell_al X2 _, cell_al X3 _⟩ | exact ⟨Y0, Y1, Y2, Y3⟩ | exact ⟨(set_other (set_other Y0 (by omega)) (by omega)), (set_other (set_other Y1 (by omega)) (by omega)), (set_other (set_other Y2 (by omega)) (by omega)), (set_other (set_other Y3 (by omega)) (by omega))⟩ | exact ⟨(set_other Y0 (by omega)), (set_other Y1 (by omega)), (set_other Y2 (by omega)), (set_other Y3 (by omega))⟩ | fail)
    (first | (go_at_call 41; refine (copyInts_any _ _ q _ hrd hqm).mono ?_; rintro e w9 ⟨A9, c9, rfl, ho9, hb9⟩; replace ho9 := ho9.1; have Y0 := keep hb9 X0; have Y1 := keep hb9 X1; have Y2 := keep hb9 X2; have Y3 := keep hb9 X3; have Y4 := W4d.below hb9; have Y4c := Y4.1; have Y4f := Y4.2; have Y5 := W5d.below hb9; have Y5c := Y5.1; have Y5f := Y5.2) | fail)
  have hz9 := hb9.size
  simp only [World.size_drew] at hz9
  have hlo9 : ∀ x, At A9 x → V3.heap.size ≤ x ∧ x < w9.heap.size := fun x hx => own_lo' ho9 hx
  have HA := Lib.hid ((hOA.drew.below hb9).wr2)
  have HU := Lib.hid (hU.drew.below hb9)
  have HI := Lib.hid (own_wr ho9)
  have hNA : ∀ b, (w.heap.size + 2 ≤ b ∧ b < mid) → (w.heap.size + 2 ≤ b ∧ b < mid) := fun _ h => h
  have hNB : ∀ b, (mid ≤ b ∧ b < u1.heap.size) → (mid ≤ b ∧ b < u1.heap.size) := fun _ h => h
  clear X0 X1 X2 X3 W0 W1 W2 W3 W4 W5 hOA hU
  go_wp2
  refine bodyPost_ret (v := .tuple #[.agg #[.slice A1 xss.length c1, .slice (some ⟨b1, off1, none⟩) yss.length d1], .slice A9 q.length c9]) (by simp [results, Try.results16, go_sem, Y4c, Y5c]) rfl ⟨A1, c1, _, d1, A9, c9, (fun x => w.heap.size + 2 ≤ x ∧ x < mid), (fun x => mid ≤ x ∧ x < u1.heap.size), At A9, by rw [List.length_set], ?_, ?_, ?_, ?_, ?_, ?_, fun b h1 h2 => by have := h1.2; have := h2.1; omega, fun b h1 h2 => by have := h1.2; have := (hlo9 b h2).1; omega, fun b h1 h2 => by have := h1.2; have := (hlo9 b h2).1; omega, ?_⟩
  · exact by (repeat' (first | (with_reducible exact HA.out) | (with_reducible refine Wr2.setOut ?_ _ (fun h => by have := hNA _ h; first | omega | (simp at this; omega))) | (with_reducible refine Wr2.alloc ?_ _) | (with_reducible refine Wr2.drewN ?_ _) | (with_reducible refine Wr2.drew ?_)))
  · exact by (repeat' (first | (with_reducible exact HU.out) | (with_reducible refine Wr2.setOut ?_ _ (fun h => by have := hNB _ h; first | omega | (simp at this; omega))) | (with_reducible refine Wr2.alloc ?_ _) | (with_reducible refine Wr2.drewN ?_ _) | (with_reducible refine Wr2.drew ?_)))
  · exact by (repeat' (first | (with_reducible exact HI.out) | (with_reducible refine Wr.setOut ?_ _ (fun h => by have := hlo9 _ h; first | omega | (simp at this; omega))) | (with_reducible refine Wr.alloc ?_ _) | (with_reducible refine Wr.drewN ?_ _) | (with_reducible refine Wr.drew ?_)))
  · intro b hb
    have h1 := hb.1
    have h2 := hb.2
    simp only [World.size_setCell, World.size_alloc, World.size_drew]
    omega
  · intro b hb
    have h1 := hb.1
    have h2 := hb.2
    simp only [World.size_setCell, World.size_alloc, World.size_drew]
    omega
  · intro b hb
    have h1 := hlo9 b hb
    simp only [World.size_setCell, World.size_alloc, World.size_drew]
    omega
  · (repeat' (first | (with_reducible exact Below.refl _ _) | (with_reducible refine bel_alloc ?_ ?_ _) | (with_reducible refine Below.setCell ?_ ?_ _) | (with_reducible refine below_drewN ?_ _) | (with_reducible refine Below.drew ?_) | (with_reducible refine bel_step hbS ?_ ?_) | (with_reducible refine bel_step hb9 ?_ ?_) | (with_reducible exact Nat.le_refl _) | (with_reducible assumption) | omega | (simp only [World.size_alloc, World.size_setCell, World.size_drew]; omega) | (simp; omega) | (simp; done)))
end Go.Proofs.Ytggigndkamkclaa
