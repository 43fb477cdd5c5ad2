/- CacheSpill, of the reference. -/
import Derived.Test.YtmfomflmbhognaaCacheS
import Derived.Deep.RegionHeld3
import Derived.Deep.DrawnRows
namespace Go.Proofs.Ytmfomflmbhognaa
open Go.ChangeShapes Go.WideShapes Go.ChangeAt Go.RowKit
set_option linter.unusedVariables false
set_option linter.unusedSimpArgs false
attribute [local go_sem ↓] Go.wp_at_zero Go.wp_at_succ

set_option maxHeartbeats 8000000 in
set_option maxRecDepth 100000 in
theorem cacheSpill_s_yes (A : Option Addr) (c : Nat) (xss : List (List Int)) (κ m : Nat) (n : Int) (q : List Int) (w : World) {B : Nat} (hrc : Rd2c iv w B A xss) (hn : Rows xss) (hv : hasL xss κ = true) (hlt : κ < xss.length) (hq : q = xss[κ]) (h1 : 1 ≤ n) (hm : min n (q.length : Int) = m) :
    Calls Try.prog 29 #[.agg #[.slice A xss.length c], .int .i64 κ, .int .i64 n] w (MadeSpill (xss.set κ (q.drop m)) (q.take m) w) := by
  have hr := hrc.rd
  have i0 : (0 : Int) ≤ (κ : Int) := by omega
  have i1 : (κ : Int) < (xss.length : Int) := by omega
  have hml : m ≤ q.length := by omega
  have hr0 := hr.lt
  obtain ⟨b, off, R0, cr, rfl, -, hc, hrq, hcr⟩ := hrc.lt.row hlt
  have hbl := lt_of_cell' hc
  have hqm := hn.2 _ (List.getElem_mem hlt)
  have HQ := Lib.hid hq
  rw [← hq] at hc hrq hqm hcr
  have HM := Lib.hid hm
  have hd : decide (n < 1) = false := by simp; omega
  clear hq hm
  go_enter Try.func29, Try.ntmps29
  go_wp2_with fail
  refine (l17Copy_s _ _ _ _ ((hr.alloc _).alloc _) hn).mono ?_
  rintro e u1 ⟨A1, c1, rfl, hcp, hO, hb1⟩
  replace hr := ((hr.alloc _).alloc _).below hb1
  replace hc := keep hb1 (cell_al (cell_al hc _) _)
  have q0 : u1.cell? ⟨w.heap.size, 0, none⟩ = some (.slice (some ⟨b, off, none⟩) xss.length c) := keep hb1 (by simp [go_sem])
  have f0 : Cl u1 ⟨w.heap.size + 1, 0, none⟩ (.slice none 0 0) := Cl.below (by constructor <;> simp [go_sem]) hb1
  have hz1 := hb1.size
  try simp only [World.size_alloc, World.size_drew] at hz1
  have lq0 := lt_of_cell' q0
  have f0c := f0.1
  have f0f := f0.2
  have lf0 := lt_of_cell' f0c
  replace hO := hO.mono (lo' := w.heap.size + 2) (by simp only [World.size_alloc]; omega)
  go_wp2_with fail
  refine (l17Is_s _ _ _ _ _ (hr.alloc _) hn true hv).mono ?_
  rintro e u2 ⟨rfl, hb2⟩
  clear lq0 f0c f0f lf0 hv
  replace hr := (hr.alloc _).below hb2
  replace hc := keep hb2 (cell_al hc _)
  replace q0 := keep hb2 (cell_al q0 _)
  replace f0 := (f0.alloc _).below hb2
  replace hO := (hO.alloc _).below hb2
  have o0 : u2.cell? ⟨u1.heap.size, 0, none⟩ = some (.slice A1 xss.length c1) := keep hb2 (by simp [go_sem])
  have hz2 := hb2.size
  try simp only [World.size_alloc, World.size_drew] at hz2
  have lq0 := lt_of_cell' q0
  have lo0 := lt_of_cell' o0
  have f0c := f0.1
  have f0f := f0.2
  have lf0 := lt_of_cell' f0c
  obtain ⟨b1, off1, hd, rfl, hb1lo, hb1hi, hRow, hhi, hL⟩ := hO.open_ (by omega)
  have hcl := hL.cell κ hlt
  rw [← HQ.out] at hcl
  unfold maxLen at hcr
  have HMo := HM.out
  obtain ⟨t0, ht, tz0, tz1, tz2⟩ := info_parts infoInt
  have hrq2 := (hrq.below (show Below w.heap.size w u2 by (repeat' (first | (with_reducible exact Below.refl _ _) | (with_reducible refine bel_alloc ?_ ?_ _) | (with_reducible refine Below.setCell ?_ ?_ _) | (with_reducible refine below_drewN ?_ _) | (with_reducible refine Below.drew ?_) | (with_reducible refine bel_step hb1 ?_ ?_) | (with_reducible refine bel_step hb2 ?_ ?_) | (with_reducible exact Nat.le_refl _) | (with_reducible assumption) | omega | (simp only [World.size_alloc, World.size_setCell, World.size_drew]; omega) | (simp; omega) | (simp; done)))))
  go_wp2_with fail
  all_goals (first | rw [show n = (m : Int) by omega] | rw [show (q.length : Int) = (m : Int) by omega])
  all_goals
    have j0 : (0 : Int) ≤ (m : Int) := by omega
    have j1 : (m : Int) ≤ (q.length : Int) := by omega
    have j2 : (m : Int) ≤ (cr : Int) := by omega
    have j3 : (q.length : Int) ≤ (cr : Int) := by omega
    have HRD : Rd u2 w.heap.size R0 (iv (q.take m)) := by
      have h2 := hrq2
      rw [iv_take q m] at h2
      exact h2.pre
    have HC : (cr = m ∧ Rd u2 w.heap.size R0 (iv (q.drop m))) ∨ (cr ≠ m ∧ ((R0 = none ∧ q = []) ∨ (∃ g o, R0 = some ⟨g, o, none⟩ ∧ Rd u2 w.heap.size (some ⟨g, o + m, none⟩) (iv (q.drop m))) ∨ ∃ a, R0 = some a ∧ q = [])) := by
      by_cases hcm : cr = m
      · refine .inl ⟨hcm, ?_⟩
        rw [List.drop_eq_nil_of_le (by omega)]
        exact Rd.nil
      · refine .inr ⟨hcm, ?_⟩
        rcases hrq2 with h | ⟨g, o, rfl, hb, h⟩
        · have hq0 : q = [] := by
            cases q with
            | nil => rfl
            | cons x l => simp [iv] at h
          subst hq0
          cases R0 with
          | none => exact .inl ⟨rfl, rfl⟩
          | some a =>
            exact .inr (.inr ⟨a, rfl, rfl⟩)
        · refine .inr (.inl ⟨g, o, rfl, ?_⟩)
          have h2 : Rd u2 w.heap.size (some ⟨g, o, none⟩) (iv q) := .inr ⟨g, o, rfl, hb, h⟩
          rw [iv_take q m] at h2
          have h3 := h2.post
          have e : (iv (q.take m)).length = m := by simp; omega
          rw [e] at h3
          exact h3
    have HTL := Lib.hid (show (iv (q.drop m)).length = (q.length - m) * 1 by simp)
    have HTL2 := Lib.hid (show (iv (q.take m)).length = m * 1 by simp; omega)
    have o0d : u2.drew.cell? ⟨u1.heap.size, 0, none⟩ = some (.slice (some ⟨b1, off1, none⟩) xss.length c1) := o0
    have q0d : u2.drew.cell? ⟨w.heap.size, 0, none⟩ = some (.slice (some ⟨b, off, none⟩) xss.length c) := q0
    have hcd : u2.drew.cell? ⟨b, off + κ, none⟩ = some (.slice R0 q.length cr) := hc
    rcases HC with ⟨hcm, hrm⟩ | ⟨hcm, ⟨rfl, hq0⟩ | ⟨g, o, rfl, hrm⟩ | ⟨a, rfl, hq0⟩⟩
    · skip
      go_region_held3 (fun w' => w'.cell? ⟨u1.heap.size, 0, none⟩ = some (.slice (some ⟨b1, off1, none⟩) xss.length c1) ∧ w'.cell? ⟨w.heap.size, 0, none⟩ = some (.slice (some ⟨b, off, none⟩) xss.length c) ∧ w'.cell? ⟨b, off + κ, none⟩ = some (.slice R0 q.length cr))
        (first | exact ⟨o0d, q0d, hcd⟩ | exact ⟨cell_al o0d _, cell_al q0d _, cell_al hcd _⟩ | exact ⟨o03, q03, hc3⟩ | exact ⟨set_other o03 (by omega), set_other q03 (by omega), set_other hc3 (by omega)⟩)
        (first | (refine step_append_new (by rfl) (.tmp 32) (.tmp 39) _ (by rfl) 3 t0 (.int .i64 0) 1 8 Try.underlying24 ht tz0 tz1 tz2 (by rfl) (by omega) u2.heap.size (by rfl) (own_lit (by rfl)) R0 (q.length - m) 0 (iv (q.drop m)) (by rfl) HTL.out (Rd.alloc (w := u2.drew) hrm _) (iv_one _) (by unfold maxLen; omega) (by omega) (by simp) ?_; intro A3 c3 w3 ho3 hS3 hA3; have hb3 : Below u2.drew.heap.size u2.drew w3 := bel_outS hS3 (fun b hb => by rw [hb]; exact Nat.le_refl _) ((Below.refl _ _).alloc (Nat.le_refl _) _) (Nat.le_refl _); have o03 := keep hb3 o0d; have q03 := keep hb3 q0d; have hc3 := keep hb3 hcd; have hcl3 := Cl.below (w := u2.drew) hcl hb3; have hcl3c := hcl3.1; have hcl3f := hcl3.2) | fail)
      have hb4 : Below u2.heap.size u2 w3 := bel_step hb3 (Below.drew (Below.refl _ _)) (Nat.le_refl _)
      replace ho3 := ho3.1
      have hz4 := hb4.size
      have hlo3 : ∀ x, At A3 x → u2.heap.size ≤ x ∧ x < w3.heap.size := fun x hx => own_lo' ho3 hx
      have hU := L2.upd (T := At A3) (A' := A3) (n' := q.length - m) (c' := c3) (xs' := q.drop m) hL hb1lo hb1hi hRow hhi hlt (OutS.of_below hb4) (by simp) (by simpa using own_wr ho3) (fun x hx => ⟨.inr (hlo3 x hx).1, (hlo3 x hx).2⟩)
      replace hU := hU.new (lo := w.heap.size + 2) (hi := w3.heap.size) (fun x hx => by omega)
      have hbS : Below w.heap.size w (w3.setCell ⟨b1, off1 + κ, none⟩ (.slice A3 (q.length - m) c3)) := by (repeat' (first | (with_reducible exact Below.refl _ _) | (with_reducible refine bel_alloc ?_ ?_ _) | (with_reducible refine Below.setCell ?_ ?_ _) | (with_reducible refine below_drewN ?_ _) | (with_reducible refine Below.drew ?_) | (with_reducible refine bel_step hb1 ?_ ?_) | (with_reducible refine bel_step hb2 ?_ ?_) | (with_reducible refine bel_step hb4 ?_ ?_) | (with_reducible exact Nat.le_refl _) | (with_reducible assumption) | omega | (simp only [World.size_alloc, World.size_setCell, World.size_drew]; omega) | (simp; omega) | (simp; done)))
      have W0 := set_other (b' := b1) (o' := off1 + κ) (u := (.slice A3 (q.length - m) c3)) o03 (by omega)
      have W1 := set_other (b' := b1) (o' := off1 + κ) (u := (.slice A3 (q.length - m) c3)) q03 (by omega)
      have W2 := set_other (b' := b1) (o' := off1 + κ) (u := (.slice A3 (q.length - m) c3)) hc3 (by omega)
      have W4 := (Cl.below (w := u2) f0 hb4).other (q := ⟨b1, off1 + κ, none⟩) (.slice A3 (q.length - m) c3) (by simp <;> omega)
      have hzV : w3.heap.size ≤ (w3.setCell ⟨b1, off1 + κ, none⟩ (.slice A3 (q.length - m) c3)).heap.size := by simp
      have HU := Lib.hid hU
      have hR5 := hrq.below hbS
      rw [iv_take q m] at hR5
      replace hR5 := hR5.pre
      clear hU o0 q0 hc f0 f0c f0f lf0 hcl hL hb3 hb4 hS3 hrm o03 q03 hc3 hcl3 hcl3c hcl3f o0d q0d hcd ho3 hlo3 hrq2 HRD
      generalize w3.setCell ⟨b1, off1 + κ, none⟩ (.slice A3 (q.length - m) c3) = V3 at *
      have lW0 := lt_of_cell' W0
      have lW4 := lt_of_cell' W4.1
      go_wp2_with fail
      have X0 : V3.drew.cell? ⟨u1.heap.size, 0, none⟩ = some (.slice (some ⟨b1, off1, none⟩) xss.length c1) := W0
      have X1 : V3.drew.cell? ⟨w.heap.size, 0, none⟩ = some (.slice (some ⟨b, off, none⟩) xss.length c) := W1
      have X2 : V3.drew.cell? ⟨b, off + κ, none⟩ = some (.slice R0 q.length cr) := W2
      have X4 : Cl V3.drew ⟨w.heap.size + 1, 0, none⟩ (.slice none 0 0) := W4
      go_region_held3 (fun w' => w'.cell? ⟨u1.heap.size, 0, none⟩ = some (.slice (some ⟨b1, off1, none⟩) xss.length c1) ∧ w'.cell? ⟨w.heap.size, 0, none⟩ = some (.slice (some ⟨b, off, none⟩) xss.length c) ∧ w'.cell? ⟨b, off + κ, none⟩ = some (.slice R0 q.length cr))
        (first | exact ⟨X0, X1, X2⟩ | exact ⟨cell_al X0 _, cell_al X1 _, cell_al X2 _⟩ | exact ⟨X05, X15, X25⟩ | exact ⟨set_other X05 (by omega), set_other X15 (by omega), set_other X25 (by omega)⟩)
        (first | (refine step_append_new (by rfl) (.tmp 43) (.tmp 50) _ (by rfl) 3 t0 (.int .i64 0) 1 8 Try.underlying24 ht tz0 tz1 tz2 (by rfl) (by omega) V3.heap.size (by rfl) (own_lit (by rfl)) R0 m m (iv (q.take m)) (by rfl) HTL2.out (Rd.alloc (w := V3.drew) hR5 _) (iv_one _) (by unfold maxLen; omega) (by omega) (by simp) ?_; intro A5 c5 w5 ho5 hS5 hA5; have hb5 : Below V3.drew.heap.size V3.drew w5 := bel_outS hS5 (fun b hb => by rw [hb]; exact Nat.le_refl _) ((Below.refl _ _).alloc (Nat.le_refl _) _) (Nat.le_refl _); have X05 := keep hb5 X0; have X15 := keep hb5 X1; have X25 := keep hb5 X2; have X45 := Cl.below X4 hb5; have X45c := X45.1; have X45f := X45.2) | fail)
      have hb5u : Below V3.heap.size V3 w5 := bel_step hb5 (Below.drew (Below.refl _ _)) (Nat.le_refl _)
      have hz5 := hb5u.size
      replace ho5 := ho5.1
      have hlo5 : ∀ x, At A5 x → V3.heap.size ≤ x ∧ x < w5.heap.size := fun x hx => own_lo' ho5 hx
      have HML := Lib.hid (show (q.take m).length = m by simp; omega)
      go_wp2
      refine bodyPost_ret (v := .tuple #[.agg #[.slice (some ⟨b1, off1, none⟩) xss.length c1], .slice A5 m c5]) (by simp [results, Try.results29, go_sem, X45c]) rfl ⟨_, c1, A5, c5, fun x => w.heap.size + 2 ≤ x ∧ x < w3.heap.size, At A5, by rw [List.length_set, HML.out], ?_, ?_, ?_, ?_, ?_, ?_⟩
      · exact (HU.out.below hb5u).setOut _ (fun h => by have := h.1; omega)
      · exact own_wr (own_outS ho5 (OutS.set (S := fun x => x = w.heap.size + 1) w5 _ rfl) (fun x hx e => by have := hlo5 x hx; omega))
      · intro b hb
        have h1 := hb.1
        have h2 := hb.2
        simp only [World.size_setCell]
        omega
      · intro b hb
        have := hlo5 b hb
        simp only [World.size_setCell]
        omega
      · intro b hb hx
        have h2 := hb.2
        have := hlo5 b hx
        omega
      · (repeat' (first | (with_reducible exact Below.refl _ _) | (with_reducible refine bel_alloc ?_ ?_ _) | (with_reducible refine Below.setCell ?_ ?_ _) | (with_reducible refine below_drewN ?_ _) | (with_reducible refine Below.drew ?_) | (with_reducible refine bel_step hbS ?_ ?_) | (with_reducible refine bel_step hb5u ?_ ?_) | (with_reducible exact Nat.le_refl _) | (with_reducible assumption) | omega | (simp only [World.size_alloc, World.size_setCell, World.size_drew]; omega) | (simp; omega) | (simp; done)))
    · skip
      have hrm : Rd u2 w.heap.size none (iv (q.drop m)) := by
        rw [hq0, List.drop_nil]
        exact Rd.nil
      have HQ0 := Lib.hid hq0
      clear hq0
      go_region_held3 (fun w' => w'.cell? ⟨u1.heap.size, 0, none⟩ = some (.slice (some ⟨b1, off1, none⟩) xss.length c1) ∧ w'.cell? ⟨w.heap.size, 0, none⟩ = some (.slice (some ⟨b, off, none⟩) xss.length c) ∧ w'.cell? ⟨b, off + κ, none⟩ = some (.slice none q.length cr))
        (first | exact ⟨o0d, q0d, hcd⟩ | exact ⟨cell_al o0d _, cell_al q0d _, cell_al hcd _⟩ | exact ⟨o03, q03, hc3⟩ | exact ⟨set_other o03 (by omega), set_other q03 (by omega), set_other hc3 (by omega)⟩)
        (first | (refine step_append_new (by rfl) (.tmp 32) (.tmp 39) _ (by rfl) 3 t0 (.int .i64 0) 1 8 Try.underlying24 ht tz0 tz1 tz2 (by rfl) (by omega) u2.heap.size (by rfl) (own_lit (by rfl)) none (q.length - m) (cr - m) (iv (q.drop m)) (by rfl) HTL.out (Rd.alloc (w := u2.drew) hrm _) (iv_one _) (by unfold maxLen; omega) (by omega) (by simp) ?_; intro A3 c3 w3 ho3 hS3 hA3; have hb3 : Below u2.drew.heap.size u2.drew w3 := bel_outS hS3 (fun b hb => by rw [hb]; exact Nat.le_refl _) ((Below.refl _ _).alloc (Nat.le_refl _) _) (Nat.le_refl _); have o03 := keep hb3 o0d; have q03 := keep hb3 q0d; have hc3 := keep hb3 hcd; have hcl3 := Cl.below (w := u2.drew) hcl hb3; have hcl3c := hcl3.1; have hcl3f := hcl3.2) | fail)
      have hb4 : Below u2.heap.size u2 w3 := bel_step hb3 (Below.drew (Below.refl _ _)) (Nat.le_refl _)
      replace ho3 := ho3.1
      have hz4 := hb4.size
      have hlo3 : ∀ x, At A3 x → u2.heap.size ≤ x ∧ x < w3.heap.size := fun x hx => own_lo' ho3 hx
      have hU := L2.upd (T := At A3) (A' := A3) (n' := q.length - m) (c' := c3) (xs' := q.drop m) hL hb1lo hb1hi hRow hhi hlt (OutS.of_below hb4) (by simp) (by simpa using own_wr ho3) (fun x hx => ⟨.inr (hlo3 x hx).1, (hlo3 x hx).2⟩)
      replace hU := hU.new (lo := w.heap.size + 2) (hi := w3.heap.size) (fun x hx => by omega)
      have hbS : Below w.heap.size w (w3.setCell ⟨b1, off1 + κ, none⟩ (.slice A3 (q.length - m) c3)) := by (repeat' (first | (with_reducible exact Below.refl _ _) | (with_reducible refine bel_alloc ?_ ?_ _) | (with_reducible refine Below.setCell ?_ ?_ _) | (with_reducible refine below_drewN ?_ _) | (with_reducible refine Below.drew ?_) | (with_reducible refine bel_step hb1 ?_ ?_) | (with_reducible refine bel_step hb2 ?_ ?_) | (with_reducible refine bel_step hb4 ?_ ?_) | (with_reducible exact Nat.le_refl _) | (with_reducible assumption) | omega | (simp only [World.size_alloc, World.size_setCell, World.size_drew]; omega) | (simp; omega) | (simp; done)))
      have W0 := set_other (b' := b1) (o' := off1 + κ) (u := (.slice A3 (q.length - m) c3)) o03 (by omega)
      have W1 := set_other (b' := b1) (o' := off1 + κ) (u := (.slice A3 (q.length - m) c3)) q03 (by omega)
      have W2 := set_other (b' := b1) (o' := off1 + κ) (u := (.slice A3 (q.length - m) c3)) hc3 (by omega)
      have W4 := (Cl.below (w := u2) f0 hb4).other (q := ⟨b1, off1 + κ, none⟩) (.slice A3 (q.length - m) c3) (by simp <;> omega)
      have hzV : w3.heap.size ≤ (w3.setCell ⟨b1, off1 + κ, none⟩ (.slice A3 (q.length - m) c3)).heap.size := by simp
      have HU := Lib.hid hU
      have hR5 := hrq.below hbS
      rw [iv_take q m] at hR5
      replace hR5 := hR5.pre
      clear hU o0 q0 hc f0 f0c f0f lf0 hcl hL hb3 hb4 hS3 hrm o03 q03 hc3 hcl3 hcl3c hcl3f o0d q0d hcd ho3 hlo3 hrq2 HRD
      generalize w3.setCell ⟨b1, off1 + κ, none⟩ (.slice A3 (q.length - m) c3) = V3 at *
      have lW0 := lt_of_cell' W0
      have lW4 := lt_of_cell' W4.1
      go_wp2_with fail
      have X0 : V3.drew.cell? ⟨u1.heap.size, 0, none⟩ = some (.slice (some ⟨b1, off1, none⟩) xss.length c1) := W0
      have X1 : V3.drew.cell? ⟨w.heap.size, 0, none⟩ = some (.slice (some ⟨b, off, none⟩) xss.length c) := W1
      have X2 : V3.drew.cell? ⟨b, off + κ, none⟩ = some (.slice none q.length cr) := W2
      have X4 : Cl V3.drew ⟨w.heap.size + 1, 0, none⟩ (.slice none 0 0) := W4
      go_region_held3 (fun w' => w'.cell? ⟨u1.heap.size, 0, none⟩ = some (.slice (some ⟨b1, off1, none⟩) xss.length c1) ∧ w'.cell? ⟨w.heap.size, 0, none⟩ = some (.slice (some ⟨b, off, none⟩) xss.length c) ∧ w'.cell? ⟨b, off + κ, none⟩ = some (.slice none q.length cr))
        (first | exact ⟨X0, X1, X2⟩ | exact ⟨cell_al X0 _, cell_al X1 _, cell_al X2 _⟩ | exact ⟨X05, X15, X25⟩ | exact ⟨set_other X05 (by omega), set_other X15 (by omega), set_other X25 (by omega)⟩)
        (first | (refine step_append_new (by rfl) (.tmp 43) (.tmp 50) _ (by rfl) 3 t0 (.int .i64 0) 1 8 Try.underlying24 ht tz0 tz1 tz2 (by rfl) (by omega) V3.heap.size (by rfl) (own_lit (by rfl)) none m cr (iv (q.take m)) (by rfl) HTL2.out (Rd.alloc (w := V3.drew) hR5 _) (iv_one _) (by unfold maxLen; omega) (by omega) (by simp) ?_; intro A5 c5 w5 ho5 hS5 hA5; have hb5 : Below V3.drew.heap.size V3.drew w5 := bel_outS hS5 (fun b hb => by rw [hb]; exact Nat.le_refl _) ((Below.refl _ _).alloc (Nat.le_refl _) _) (Nat.le_refl _); have X05 := keep hb5 X0; have X15 := keep hb5 X1; have X25 := keep hb5 X2; have X45 := Cl.below X4 hb5; have X45c := X45.1; have X45f := X45.2) | fail)
      have hb5u : Below V3.heap.size V3 w5 := bel_step hb5 (Below.drew (Below.refl _ _)) (Nat.le_refl _)
      have hz5 := hb5u.size
      replace ho5 := ho5.1
      have hlo5 : ∀ x, At A5 x → V3.heap.size ≤ x ∧ x < w5.heap.size := fun x hx => own_lo' ho5 hx
      have HML := Lib.hid (show (q.take m).length = m by simp; omega)
      go_wp2
      refine bodyPost_ret (v := .tuple #[.agg #[.slice (some ⟨b1, off1, none⟩) xss.length c1], .slice A5 m c5]) (by simp [results, Try.results29, go_sem, X45c]) rfl ⟨_, c1, A5, c5, fun x => w.heap.size + 2 ≤ x ∧ x < w3.heap.size, At A5, by rw [List.length_set, HML.out], ?_, ?_, ?_, ?_, ?_, ?_⟩
      · exact (HU.out.below hb5u).setOut _ (fun h => by have := h.1; omega)
      · exact own_wr (own_outS ho5 (OutS.set (S := fun x => x = w.heap.size + 1) w5 _ rfl) (fun x hx e => by have := hlo5 x hx; omega))
      · intro b hb
        have h1 := hb.1
        have h2 := hb.2
        simp only [World.size_setCell]
        omega
      · intro b hb
        have := hlo5 b hb
        simp only [World.size_setCell]
        omega
      · intro b hb hx
        have h2 := hb.2
        have := hlo5 b hx
        omega
      · (repeat' (first | (with_reducible exact Below.refl _ _) | (with_reducible refine bel_alloc ?_ ?_ _) | (with_reducible refine Below.setCell ?_ ?_ _) | (with_reducible refine below_drewN ?_ _) | (with_reducible refine Below.drew ?_) | (with_reducible refine bel_step hbS ?_ ?_) | (with_reducible refine bel_step hb5u ?_ ?_) | (with_reducible exact Nat.le_refl _) | (with_reducible assumption) | omega | (simp only [World.size_alloc, World.size_setCell, World.size_drew]; omega) | (simp; omega) | (simp; done)))
    · skip
      go_region_held3 (fun w' => w'.cell? ⟨u1.heap.size, 0, none⟩ = some (.slice (some ⟨b1, off1, none⟩) xss.length c1) ∧ w'.cell? ⟨w.heap.size, 0, none⟩ = some (.slice (some ⟨b, off, none⟩) xss.length c) ∧ w'.cell? ⟨b, off + κ, none⟩ = some (.slice (some ⟨g, o, none⟩) q.length cr))
        (first | exact ⟨o0d, q0d, hcd⟩ | exact ⟨cell_al o0d _, cell_al q0d _, cell_al hcd _⟩ | exact ⟨o03, q03, hc3⟩ | exact ⟨set_other o03 (by omega), set_other q03 (by omega), set_other hc3 (by omega)⟩)
        (first | (refine step_append_new (by rfl) (.tmp 32) (.tmp 39) _ (by rfl) 3 t0 (.int .i64 0) 1 8 Try.underlying24 ht tz0 tz1 tz2 (by rfl) (by omega) u2.heap.size (by rfl) (own_lit (by rfl)) (some ⟨g, o + m, none⟩) (q.length - m) (cr - m) (iv (q.drop m)) (by rfl) HTL.out (Rd.alloc (w := u2.drew) hrm _) (iv_one _) (by unfold maxLen; omega) (by omega) (by simp) ?_; intro A3 c3 w3 ho3 hS3 hA3; have hb3 : Below u2.drew.heap.size u2.drew w3 := bel_outS hS3 (fun b hb => by rw [hb]; exact Nat.le_refl _) ((Below.refl _ _).alloc (Nat.le_refl _) _) (Nat.le_refl _); have o03 := keep hb3 o0d; have q03 := keep hb3 q0d; have hc3 := keep hb3 hcd; have hcl3 := Cl.below (w := u2.drew) hcl hb3; have hcl3c := hcl3.1; have hcl3f := hcl3.2) | fail)
      have hb4 : Below u2.heap.size u2 w3 := bel_step hb3 (Below.drew (Below.refl _ _)) (Nat.le_refl _)
      replace ho3 := ho3.1
      have hz4 := hb4.size
      have hlo3 : ∀ x, At A3 x → u2.heap.size ≤ x ∧ x < w3.heap.size := fun x hx => own_lo' ho3 hx
      have hU := L2.upd (T := At A3) (A' := A3) (n' := q.length - m) (c' := c3) (xs' := q.drop m) hL hb1lo hb1hi hRow hhi hlt (OutS.of_below hb4) (by simp) (by simpa using own_wr ho3) (fun x hx => ⟨.inr (hlo3 x hx).1, (hlo3 x hx).2⟩)
      replace hU := hU.new (lo := w.heap.size + 2) (hi := w3.heap.size) (fun x hx => by omega)
      have hbS : Below w.heap.size w (w3.setCell ⟨b1, off1 + κ, none⟩ (.slice A3 (q.length - m) c3)) := by (repeat' (first | (with_reducible exact Below.refl _ _) | (with_reducible refine bel_alloc ?_ ?_ _) | (with_reducible refine Below.setCell ?_ ?_ _) | (with_reducible refine below_drewN ?_ _) | (with_reducible refine Below.drew ?_) | (with_reducible refine bel_step hb1 ?_ ?_) | (with_reducible refine bel_step hb2 ?_ ?_) | (with_reducible refine bel_step hb4 ?_ ?_) | (with_reducible exact Nat.le_refl _) | (with_reducible assumption) | omega | (simp only [World.size_alloc, World.size_setCell, World.size_drew]; omega) | (simp; omega) | (simp; done)))
      have W0 := set_other (b' := b1) (o' := off1 + κ) (u := (.slice A3 (q.length - m) c3)) o03 (by omega)
      have W1 := set_other (b' := b1) (o' := off1 + κ) (u := (.slice A3 (q.length - m) c3)) q03 (by omega)
      have W2 := set_other (b' := b1) (o' := off1 + κ) (u := (.slice A3 (q.length - m) c3)) hc3 (by omega)
      have W4 := (Cl.below (w := u2) f0 hb4).other (q := ⟨b1, off1 + κ, none⟩) (.slice A3 (q.length - m) c3) (by simp <;> omega)
      have hzV : w3.heap.size ≤ (w3.setCell ⟨b1, off1 + κ, none⟩ (.slice A3 (q.length - m) c3)).heap.size := by simp
      have HU := Lib.hid hU
      have hR5 := hrq.below hbS
      rw [iv_take q m] at hR5
      replace hR5 := hR5.pre
      clear hU o0 q0 hc f0 f0c f0f lf0 hcl hL hb3 hb4 hS3 hrm o03 q03 hc3 hcl3 hcl3c hcl3f o0d q0d hcd ho3 hlo3 hrq2 HRD
      generalize w3.setCell ⟨b1, off1 + κ, none⟩ (.slice A3 (q.length - m) c3) = V3 at *
      have lW0 := lt_of_cell' W0
      have lW4 := lt_of_cell' W4.1
      go_wp2_with fail
      have X0 : V3.drew.cell? ⟨u1.heap.size, 0, none⟩ = some (.slice (some ⟨b1, off1, none⟩) xss.length c1) := W0
      have X1 : V3.drew.cell? ⟨w.heap.size, 0, none⟩ = some (.slice (some ⟨b, off, none⟩) xss.length c) := W1
      have X2 : V3.drew.cell? ⟨b, off + κ, none⟩ = some (.slice (some ⟨g, o, none⟩) q.length cr) := W2
      have X4 : Cl V3.drew ⟨w.heap.size + 1, 0, none⟩ (.slice none 0 0) := W4
      go_region_held3 (fun w' => w'.cell? ⟨u1.heap.size, 0, none⟩ = some (.slice (some ⟨b1, off1, none⟩) xss.length c1) ∧ w'.cell? ⟨w.heap.size, 0, none⟩ = some (.slice (some ⟨b, off, none⟩) xss.length c) ∧ w'.cell? ⟨b, off + κ, none⟩ = some (.slice (some ⟨g, o, none⟩) q.length cr))
        (first | exact ⟨X0, X1, X2⟩ | exact ⟨cell_al X0 _, cell_al X1 _, cell_al X2 _⟩ | exact ⟨X05, X15, X25⟩ | exact ⟨set_other X05 (by omega), set_other X15 (by omega), set_other X25 (by omega)⟩)
        (first | (refine step_append_new (by rfl) (.tmp 43) (.tmp 50) _ (by rfl) 3 t0 (.int .i64 0) 1 8 Try.underlying24 ht tz0 tz1 tz2 (by rfl) (by omega) V3.heap.size (by rfl) (own_lit (by rfl)) (some ⟨g, o, none⟩) m cr (iv (q.take m)) (by rfl) HTL2.out (Rd.alloc (w := V3.drew) hR5 _) (iv_one _) (by unfold maxLen; omega) (by omega) (by simp) ?_; intro A5 c5 w5 ho5 hS5 hA5; have hb5 : Below V3.drew.heap.size V3.drew w5 := bel_outS hS5 (fun b hb => by rw [hb]; exact Nat.le_refl _) ((Below.refl _ _).alloc (Nat.le_refl _) _) (Nat.le_refl _); have X05 := keep hb5 X0; have X15 := keep hb5 X1; have X25 := keep hb5 X2; have X45 := Cl.below X4 hb5; have X45c := X45.1; have X45f := X45.2) | fail)
      have hb5u : Below V3.heap.size V3 w5 := bel_step hb5 (Below.drew (Below.refl _ _)) (Nat.le_refl _)
      have hz5 := hb5u.size
      replace ho5 := ho5.1
      have hlo5 : ∀ x, At A5 x → V3.heap.size ≤ x ∧ x < w5.heap.size := fun x hx => own_lo' ho5 hx
      have HML := Lib.hid (show (q.take m).length = m by simp; omega)
      go_wp2
      refine bodyPost_ret (v := .tuple #[.agg #[.slice (some ⟨b1, off1, none⟩) xss.length c1], .slice A5 m c5]) (by simp [results, Try.results29, go_sem, X45c]) rfl ⟨_, c1, A5, c5, fun x => w.heap.size + 2 ≤ x ∧ x < w3.heap.size, At A5, by rw [List.length_set, HML.out], ?_, ?_, ?_, ?_, ?_, ?_⟩
      · exact (HU.out.below hb5u).setOut _ (fun h => by have := h.1; omega)
      · exact own_wr (own_outS ho5 (OutS.set (S := fun x => x = w.heap.size + 1) w5 _ rfl) (fun x hx e => by have := hlo5 x hx; omega))
      · intro b hb
        have h1 := hb.1
        have h2 := hb.2
        simp only [World.size_setCell]
        omega
      · intro b hb
        have := hlo5 b hb
        simp only [World.size_setCell]
        omega
      · intro b hb hx
        have h2 := hb.2
        have := hlo5 b hx
        omega
      · (repeat' (first | (with_reducible exact Below.refl _ _) | (with_reducible refine bel_alloc ?_ ?_ _) | (with_reducible refine Below.setCell ?_ ?_ _) | (with_reducible refine below_drewN ?_ _) | (with_reducible refine Below.drew ?_) | (with_reducible refine bel_step hbS ?_ ?_) | (with_reducible refine bel_step hb5u ?_ ?_) | (with_reducible exact Nat.le_refl _) | (with_reducible assumption) | omega | (simp only [World.size_alloc, World.size_setCell, World.size_drew]; omega) | (simp; omega) | (simp; done)))
    · skip
      have hrm : Rd u2 w.heap.size (some (a.add m)) (iv (q.drop m)) := by
        rw [hq0, List.drop_nil]
        exact Rd.nil
      have HQ0 := Lib.hid hq0
      clear hq0
      go_region_held3 (fun w' => w'.cell? ⟨u1.heap.size, 0, none⟩ = some (.slice (some ⟨b1, off1, none⟩) xss.length c1) ∧ w'.cell? ⟨w.heap.size, 0, none⟩ = some (.slice (some ⟨b, off, none⟩) xss.length c) ∧ w'.cell? ⟨b, off + κ, none⟩ = some (.slice (some a) q.length cr))
        (first | exact ⟨o0d, q0d, hcd⟩ | exact ⟨cell_al o0d _, cell_al q0d _, cell_al hcd _⟩ | exact ⟨o03, q03, hc3⟩ | exact ⟨set_other o03 (by omega), set_other q03 (by omega), set_other hc3 (by omega)⟩)
        (first | (refine step_append_new (by rfl) (.tmp 32) (.tmp 39) _ (by rfl) 3 t0 (.int .i64 0) 1 8 Try.underlying24 ht tz0 tz1 tz2 (by rfl) (by omega) u2.heap.size (by rfl) (own_lit (by rfl)) (some (a.add m)) (q.length - m) (cr - m) (iv (q.drop m)) (by rfl) HTL.out (Rd.alloc (w := u2.drew) hrm _) (iv_one _) (by unfold maxLen; omega) (by omega) (by simp) ?_; intro A3 c3 w3 ho3 hS3 hA3; have hb3 : Below u2.drew.heap.size u2.drew w3 := bel_outS hS3 (fun b hb => by rw [hb]; exact Nat.le_refl _) ((Below.refl _ _).alloc (Nat.le_refl _) _) (Nat.le_refl _); have o03 := keep hb3 o0d; have q03 := keep hb3 q0d; have hc3 := keep hb3 hcd; have hcl3 := Cl.below (w := u2.drew) hcl hb3; have hcl3c := hcl3.1; have hcl3f := hcl3.2) | fail)
      have hb4 : Below u2.heap.size u2 w3 := bel_step hb3 (Below.drew (Below.refl _ _)) (Nat.le_refl _)
      replace ho3 := ho3.1
      have hz4 := hb4.size
      have hlo3 : ∀ x, At A3 x → u2.heap.size ≤ x ∧ x < w3.heap.size := fun x hx => own_lo' ho3 hx
      have hU := L2.upd (T := At A3) (A' := A3) (n' := q.length - m) (c' := c3) (xs' := q.drop m) hL hb1lo hb1hi hRow hhi hlt (OutS.of_below hb4) (by simp) (by simpa using own_wr ho3) (fun x hx => ⟨.inr (hlo3 x hx).1, (hlo3 x hx).2⟩)
      replace hU := hU.new (lo := w.heap.size + 2) (hi := w3.heap.size) (fun x hx => by omega)
      have hbS : Below w.heap.size w (w3.setCell ⟨b1, off1 + κ, none⟩ (.slice A3 (q.length - m) c3)) := by (repeat' (first | (with_reducible exact Below.refl _ _) | (with_reducible refine bel_alloc ?_ ?_ _) | (with_reducible refine Below.setCell ?_ ?_ _) | (with_reducible refine below_drewN ?_ _) | (with_reducible refine Below.drew ?_) | (with_reducible refine bel_step hb1 ?_ ?_) | (with_reducible refine bel_step hb2 ?_ ?_) | (with_reducible refine bel_step hb4 ?_ ?_) | (with_reducible exact Nat.le_refl _) | (with_reducible assumption) | omega | (simp only [World.size_alloc, World.size_setCell, World.size_drew]; omega) | (simp; omega) | (simp; done)))
      have W0 := set_other (b' := b1) (o' := off1 + κ) (u := (.slice A3 (q.length - m) c3)) o03 (by omega)
      have W1 := set_other (b' := b1) (o' := off1 + κ) (u := (.slice A3 (q.length - m) c3)) q03 (by omega)
      have W2 := set_other (b' := b1) (o' := off1 + κ) (u := (.slice A3 (q.length - m) c3)) hc3 (by omega)
      have W4 := (Cl.below (w := u2) f0 hb4).other (q := ⟨b1, off1 + κ, none⟩) (.slice A3 (q.length - m) c3) (by simp <;> omega)
      have hzV : w3.heap.size ≤ (w3.setCell ⟨b1, off1 + κ, none⟩ (.slice A3 (q.length - m) c3)).heap.size := by simp
      have HU := Lib.hid hU
      have hR5 := hrq.below hbS
      rw [iv_take q m] at hR5
      replace hR5 := hR5.pre
      clear hU o0 q0 hc f0 f0c f0f lf0 hcl hL hb3 hb4 hS3 hrm o03 q03 hc3 hcl3 hcl3c hcl3f o0d q0d hcd ho3 hlo3 hrq2 HRD
      generalize w3.setCell ⟨b1, off1 + κ, none⟩ (.slice A3 (q.length - m) c3) = V3 at *
      have lW0 := lt_of_cell' W0
      have lW4 := lt_of_cell' W4.1
      go_wp2_with fail
      have X0 : V3.drew.cell? ⟨u1.heap.size, 0, none⟩ = some (.slice (some ⟨b1, off1, none⟩) xss.length c1) := W0
      have X1 : V3.drew.cell? ⟨w.heap.size, 0, none⟩ = some (.slice (some ⟨b, off, none⟩) xss.length c) := W1
      have X2 : V3.drew.cell? ⟨b, off + κ, none⟩ = some (.slice (some a) q.length cr) := W2
      have X4 : Cl V3.drew ⟨w.heap.size + 1, 0, none⟩ (.slice none 0 0) := W4
      go_region_held3 (fun w' => w'.cell? ⟨u1.heap.size, 0, none⟩ = some (.slice (some ⟨b1, off1, none⟩) xss.length c1) ∧ w'.cell? ⟨w.heap.size, 0, none⟩ = some (.slice (some ⟨b, off, none⟩) xss.length c) ∧ w'.cell? ⟨b, off + κ, none⟩ = some (.slice (some a) q.length cr))
        (first | exact ⟨X0, X1, X2⟩ | exact ⟨cell_al X0 _, cell_al X1 _, cell_al X2 _⟩ | exact ⟨X05, X15, X25⟩ | exact ⟨set_other X05 (by omega), set_other X15 (by omega), set_other X25 (by omega)⟩)
        (first | (refine step_append_new (by rfl) (.tmp 43) (.tmp 50) _ (by rfl) 3 t0 (.int .i64 0) 1 8 Try.underlying24 ht tz0 tz1 tz2 (by rfl) (by omega) V3.heap.size (by rfl) (own_lit (by rfl)) (some a) m cr (iv (q.take m)) (by rfl) HTL2.out (Rd.alloc (w := V3.drew) hR5 _) (iv_one _) (by unfold maxLen; omega) (by omega) (by simp) ?_; intro A5 c5 w5 ho5 hS5 hA5; have hb5 : Below V3.drew.heap.size V3.drew w5 := bel_outS hS5 (fun b hb => by rw [hb]; exact Nat.le_refl _) ((Below.refl _ _).alloc (Nat.le_refl _) _) (Nat.le_refl _); have X05 := keep hb5 X0; have X15 := keep hb5 X1; have X25 := keep hb5 X2; have X45 := Cl.below X4 hb5; have X45c := X45.1; have X45f := X45.2) | fail)
      have hb5u : Below V3.heap.size V3 w5 := bel_step hb5 (Below.drew (Below.refl _ _)) (Nat.le_refl _)
      have hz5 := hb5u.size
      replace ho5 := ho5.1
      have hlo5 : ∀ x, At A5 x → V3.heap.size ≤ x ∧ x < w5.heap.size := fun x hx => own_lo' ho5 hx
      have HML := Lib.hid (show (q.take m).length = m by simp; omega)
      go_wp2
      refine bodyPost_ret (v := .tuple #[.agg #[.slice (some ⟨b1, off1, none⟩) xss.length c1], .slice A5 m c5]) (by simp [results, Try.results29, go_sem, X45c]) rfl ⟨_, c1, A5, c5, fun x => w.heap.size + 2 ≤ x ∧ x < w3.heap.size, At A5, by rw [List.length_set, HML.out], ?_, ?_, ?_, ?_, ?_, ?_⟩
      · exact (HU.out.below hb5u).setOut _ (fun h => by have := h.1; omega)
      · exact own_wr (own_outS ho5 (OutS.set (S := fun x => x = w.heap.size + 1) w5 _ rfl) (fun x hx e => by have := hlo5 x hx; omega))
      · intro b hb
        have h1 := hb.1
        have h2 := hb.2
        simp only [World.size_setCell]
        omega
      · intro b hb
        have := hlo5 b hb
        simp only [World.size_setCell]
        omega
      · intro b hb hx
        have h2 := hb.2
        have := hlo5 b hx
        omega
      · (repeat' (first | (with_reducible exact Below.refl _ _) | (with_reducible refine bel_alloc ?_ ?_ _) | (with_reducible refine Below.setCell ?_ ?_ _) | (with_reducible refine below_drewN ?_ _) | (with_reducible refine Below.drew ?_) | (with_reducible refine bel_step hbS ?_ ?_) | (with_reducible refine bel_step hb5u ?_ ?_) | (with_reducible exact Nat.le_refl _) | (with_reducible assumption) | omega | (simp only [World.size_alloc, World.size_setCell, World.size_drew]; omega) | (simp; omega) | (simp; done)))
end Go.Proofs.Ytmfomflmbhognaa
