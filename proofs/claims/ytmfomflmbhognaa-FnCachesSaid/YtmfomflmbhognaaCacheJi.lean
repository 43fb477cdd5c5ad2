/- CacheTake, of the program. -/
import Derived.Test.YtmfomflmbhognaaCacheJ
import Derived.Deep.RegionHeld3
import Derived.Deep.DrawnRows
namespace Go.Proofs.Ytmfomflmbhognaa
open Go.ChangeShapes Go.WideShapes Go.ChangeAt Go.RowKit
set_option linter.unusedVariables false
attribute [local go_sem ↓] Go.wp_at_zero Go.wp_at_succ

set_option maxHeartbeats 8000000 in
set_option maxRecDepth 100000 in
theorem cacheTake_i_yes (A : Option Addr) (c : Nat) (xss : List (List Int)) (κ m : Nat) (q : List Int) (y : Int) (w : World) {B : Nat} (hr : Rd2 iv w B A xss) (hn : Rows xss) (hv : hasL xss κ = true) (hlt : κ < xss.length) (hq : q = xss[κ]) (hm : q.length = m + 1) (hy : q[m]? = some y) :
    Calls Try.prog 16 #[.agg #[.slice A xss.length c], .int .i64 κ] w (MadeTake (xss.set κ (q.take m)) y true w) := by
  have i0 : (0 : Int) ≤ (κ : Int) := by omega
  have i1 : (κ : Int) < (xss.length : Int) := by omega
  have hr0 := hr.lt
  obtain ⟨b, off, R0, cr, rfl, -, hc, hrq⟩ := hr.lt.row hlt
  have hbl := lt_of_cell' hc
  have hqm := hn.2 _ (List.getElem_mem hlt)
  have HQ := Lib.hid hq
  rw [← hq] at hc hrq hqm
  obtain ⟨b2, off2, rfl, hb2l, hx⟩ := hrq.at_ (k := m) (v := .int .i64 y) (by simp [iv, hy])
  have j0 : (0 : Int) ≤ (m : Int) := by omega
  have j1 : (m : Int) < ((m + 1 : Nat) : Int) := by omega
  have j1' : (m : Int) < (m : Int) + 1 := by omega
  have HM := Lib.hid hm
  rw [hm] at hc hqm
  clear hm hy
  clear hq
  go_enter Try.func16, Try.ntmps16
  go_wp2_with fail
  refine (copyCache_i _ _ _ _ ((hr.alloc _).alloc _) hn).mono ?_
  rintro e u1 ⟨A1, c1, rfl, hcp, hO, hb1⟩
  replace hr := ((hr.alloc _).alloc _).below hb1
  replace hc := keep hb1 (cell_al (cell_al hc _) _)
  replace hx := keep hb1 (cell_al (cell_al hx _) _)
  have q0 : u1.cell? ⟨w.heap.size, 0, none⟩ = some (.slice (some ⟨b, off, none⟩) xss.length c) := keep hb1 (by simp [go_sem])
  have f0 : Cl u1 ⟨w.heap.size + 1, 0, none⟩ (.slice none 0 0) := Cl.below (by constructor <;> simp [go_sem]) hb1
  have hz1 := hb1.size
  try simp only [World.size_alloc, World.size_drew] at hz1
  have lq0 := lt_of_cell' q0
  have f0c := f0.1
  have f0f := f0.2
  have lf0 := lt_of_cell' f0c
  replace hO := hO.mono (lo' := w.heap.size + 2) (by simp only [World.size_alloc]; omega)
  go_wp2_with fail
  refine (hasList_i _ _ _ _ _ (hr.alloc _) hn true hv).mono ?_
  rintro e u2 ⟨rfl, hb2⟩
  clear lq0
  clear f0c f0f
  clear lf0
  replace hr := (hr.alloc _).below hb2
  replace hc := keep hb2 (cell_al hc _)
  replace hx := keep hb2 (cell_al hx _)
  replace q0 := keep hb2 (cell_al q0 _)
  replace f0 := (f0.alloc _).below hb2
  replace hO := (hO.alloc _).below hb2
  have o0 : u2.cell? ⟨u1.heap.size, 0, none⟩ = some (.slice A1 xss.length c1) := keep hb2 (by simp [go_sem])
  have hz2 := hb2.size
  try simp only [World.size_alloc, World.size_drew] at hz2
  have lq0 := lt_of_cell' q0
  have lo0 := lt_of_cell' o0
  have f0c := f0.1
  have f0f := f0.2
  have lf0 := lt_of_cell' f0c
  obtain ⟨b1, off1, hd, rfl, hb1lo, hb1hi, hRow, hhi, hL⟩ := hO.open_ (by omega)
  have hcl := hL.cell κ hlt
  have hrk := hL.row κ hlt
  have hcap := (Ow.mk' hrk).cap
  rw [← HQ.out] at hcl hrk hcap
  obtain ⟨g, hg, -, -⟩ := (Ow.mk' hrk).some_ (by rw [HM.out]; omega)
  obtain ⟨cp, hcp'⟩ : ∃ cp, cp = (hd κ).2 := ⟨_, rfl⟩
  rw [hg, ← hcp', HM.out] at hcl
  rw [← hcp'] at hcap
  rw [HM.out] at hcap
  have j3 : (m : Int) ≤ (cp : Int) := by omega
  have hclc := hcl.1
  have hclf := hcl.2
  have HH := Lib.hid hg
  clear hg hcp' hv
  have hw := own_wr hrk
  rw [HH.out, iv_take q m] at hw
  have hU := L2.upd (T := At (some ⟨g, 0, none⟩)) (A' := some ⟨g, 0, none⟩) (n' := m) (c' := cp) (xs' := q.take m) hL hb1lo hb1hi hRow hhi hlt OutS.refl (by simp [HM.out]) hw.pre (fun x hx => ⟨.inl (by rw [HH.out]; exact hx), (own_lo' hrk (by rw [HH.out]; exact hx)).2⟩)
  have hN : ∀ x, ((w.heap.size + 2 ≤ x ∧ x < u1.heap.size) ∨ (u2.heap.size ≤ x ∧ x < u2.heap.size)) → w.heap.size + 2 ≤ x ∧ x < u2.heap.size := fun x hx => by omega
  have hbS : Below w.heap.size w (u2.setCell ⟨b1, off1 + κ, none⟩ (.slice (some ⟨g, 0, none⟩) m cp)) := by (repeat' (first | (with_reducible exact Below.refl _ _) | (with_reducible refine bel_alloc ?_ ?_ _) | (with_reducible refine Below.setCell ?_ ?_ _) | (with_reducible refine below_drewN ?_ _) | (with_reducible refine Below.drew ?_) | (with_reducible refine bel_step hb1 ?_ ?_) | (with_reducible refine bel_step hb2 ?_ ?_) | (with_reducible exact Nat.le_refl _) | (with_reducible assumption) | omega | (simp only [World.size_alloc, World.size_setCell, World.size_drew]; omega) | (simp; omega) | (simp; done)))
  go_wp2_with fail
  have o0d : u2.drew.cell? ⟨u1.heap.size, 0, none⟩ = some (.slice (some ⟨b1, off1, none⟩) xss.length c1) := o0
  have hcd : u2.drew.cell? ⟨b1, off1 + κ, none⟩ = some (.slice (some ⟨g, 0, none⟩) (m + 1) cp) := hclc
  have hfd : u2.drew.frozen? ⟨b1, off1 + κ, none⟩ = false := hclf
  go_region_law (fail)
  all_goals
    replace hU := hU.new hN
    have W0 := set_other (b' := b1) (o' := off1 + κ) (u := (.slice (some ⟨g, 0, none⟩) m cp)) o0 (by omega)
    have W1 := set_other (b' := b1) (o' := off1 + κ) (u := (.slice (some ⟨g, 0, none⟩) m cp)) q0 (by omega)
    have W2 := set_other (b' := b1) (o' := off1 + κ) (u := (.slice (some ⟨g, 0, none⟩) m cp)) hc (by omega)
    have W3 := set_other (b' := b1) (o' := off1 + κ) (u := (.slice (some ⟨g, 0, none⟩) m cp)) hx (by omega)
    have W4 := f0.other (q := ⟨b1, off1 + κ, none⟩) (.slice (some ⟨g, 0, none⟩) m cp) (by simp <;> omega)
    have hzS : u2.heap.size ≤ (u2.setCell ⟨b1, off1 + κ, none⟩ (.slice (some ⟨g, 0, none⟩) m cp)).heap.size := by simp
    have HU := Lib.hid hU
    clear hU o0 q0 hc hx f0 f0c f0f lf0 hcl hclc hclf hL hrk
    try clear o0d hcd hfd
    generalize u2.setCell ⟨b1, off1 + κ, none⟩ (.slice (some ⟨g, 0, none⟩) m cp) = V3 at *
    have W4c := W4.1
    have W4f := W4.2
    go_wp2
    refine bodyPost_ret (v := .tuple #[.agg #[.slice (some ⟨b1, off1, none⟩) xss.length c1], .int .i64 y, .bool true]) (by simp [results, Try.results16, go_sem, W4c]) rfl ⟨_, c1, fun x => w.heap.size + 2 ≤ x ∧ x < u2.heap.size, by rw [List.length_set], ?_, ?_, ?_⟩
    · have hNV : ∀ b, (w.heap.size + 2 ≤ b ∧ b < u2.heap.size) → w.heap.size + 2 ≤ b ∧ b < u2.heap.size := fun _ h => h
      exact by (repeat' (first | (with_reducible exact HU.out) | (with_reducible refine Wr2.setOut ?_ _ (fun h => by have := hNV _ h; first | omega | (simp at this; omega))) | (with_reducible refine Wr2.alloc ?_ _) | (with_reducible refine Wr2.drewN ?_ _) | (with_reducible refine Wr2.drew ?_)))
    · intro b hb
      have h1 := hb.1
      have h2 := hb.2
      simp only [World.size_setCell, World.size_drew]
      omega
    · (repeat' (first | (with_reducible exact Below.refl _ _) | (with_reducible refine bel_alloc ?_ ?_ _) | (with_reducible refine Below.setCell ?_ ?_ _) | (with_reducible refine below_drewN ?_ _) | (with_reducible refine Below.drew ?_) | (with_reducible refine bel_step hbS ?_ ?_) | (with_reducible exact Nat.le_refl _) | (with_reducible assumption) | omega | (simp only [World.size_alloc, World.size_setCell, World.size_drew]; omega) | (simp; omega) | (simp; done)))
end Go.Proofs.Ytmfomflmbhognaa
