/- CacheSpill, of the program. -/
import Derived.Test.YtmfomflmbhognaaCacheS
import Derived.Deep.RegionHeld3
import Derived.Deep.DrawnRows
namespace Go.Proofs.Ytmfomflmbhognaa
open Go.ChangeShapes Go.WideShapes Go.ChangeAt Go.RowKit
set_option linter.unusedVariables false
set_option linter.unusedSimpArgs false
attribute [local go_sem ↓] Go.wp_at_zero Go.wp_at_succ

theorem copyInts_n (A : Option Addr) (c n : Nat) (xs : List Int) (w : World) {B : Nat} (hr : Rd w B A (iv xs)) (hl : xs.length = n) (hn : n ≤ 1048576) : Calls Try.prog 55 #[.slice A n c] w (MadeI xs w) := by
  subst hl
  exact copyInts_any A c xs w hr hn
set_option maxHeartbeats 8000000 in
set_option maxRecDepth 100000 in
theorem cacheSpill_i_yes (A : Option Addr) (c : Nat) (xss : List (List Int)) (κ m : Nat) (n : Int) (q : List Int) (w : World) {B : Nat} (hr : Rd2 iv w B A xss) (hn : Rows xss) (hv : hasL xss κ = true) (hlt : κ < xss.length) (hq : q = xss[κ]) (h1 : 1 ≤ n) (hm : min n (q.length : Int) = m) :
    Calls Try.prog 27 #[.agg #[.slice A xss.length c], .int .i64 κ, .int .i64 n] w (MadeSpill (xss.set κ (q.drop m)) (q.take m) w) := by
  have i0 : (0 : Int) ≤ (κ : Int) := by omega
  have i1 : (κ : Int) < (xss.length : Int) := by omega
  have hml : m ≤ q.length := by omega
  have hr0 := hr.lt
  have hqm := hn.2 _ (List.getElem_mem hlt)
  have HQ := Lib.hid hq
  rw [← hq] at hqm
  have HM := Lib.hid hm
  have hd : decide (n < 1) = false := by simp; omega
  clear hq hm
  go_enter Try.func27, Try.ntmps27
  go_wp2_with fail
  refine (copyCache_i _ _ _ _ ((hr.alloc _).alloc _) hn).mono ?_
  rintro e u1 ⟨A1, c1, rfl, hcp, hO, hb1⟩
  replace hr := ((hr.alloc _).alloc _).below hb1
  have q0 : u1.cell? ⟨w.heap.size, 0, none⟩ = some (.slice A xss.length c) := keep hb1 (by simp [go_sem])
  have f0 : Cl u1 ⟨w.heap.size + 1, 0, none⟩ (.slice none 0 0) := Cl.below (by constructor <;> simp [go_sem]) hb1
  have hz1 := hb1.size
  try simp only [World.size_alloc, World.size_drew] at hz1
  have lq0 := lt_of_cell' q0
  have f0c := f0.1
  have f0f := f0.2
  have lf0 := lt_of_cell' f0c
  replace hO := hO.mono (lo' := w.heap.size + 2) (by simp only [World.size_alloc]; omega)
  go_wp2_with fail
  refine (hasList_i _ _ _ _ _ (hr.alloc _) hn true hv).mono ?_
  rintro e u2 ⟨rfl, hb2⟩
  clear lq0 f0c f0f lf0 hv q0
  replace hr := (hr.alloc _).below hb2
  replace f0 := (f0.alloc _).below hb2
  replace hO := (hO.alloc _).below hb2
  have o0 : u2.cell? ⟨u1.heap.size, 0, none⟩ = some (.slice A1 xss.length c1) := keep hb2 (by simp [go_sem])
  have hz2 := hb2.size
  try simp only [World.size_alloc, World.size_drew] at hz2
  have lo0 := lt_of_cell' o0
  have f0c := f0.1
  have f0f := f0.2
  have lf0 := lt_of_cell' f0c
  obtain ⟨b1, off1, hd, rfl, hb1lo, hb1hi, hRow, hhi, hL⟩ := hO.open_ (by omega)
  have hcl := hL.cell κ hlt
  have hrk := hL.row κ hlt
  have hcap := (Ow.mk' hrk).cap
  have hrr := (own_wr hrk).rd
  rw [← HQ.out] at hcl hrk hcap hrr
  obtain ⟨R, hR⟩ : ∃ R, R = (hd κ).1 := ⟨_, rfl⟩
  obtain ⟨cp, hcp'⟩ : ∃ cp, cp = (hd κ).2 := ⟨_, rfl⟩
  rw [← hR, ← hcp'] at hcl hrk
  rw [← hR] at hrr
  rw [← hcp'] at hcap
  have HR := Lib.hid hR
  clear hR hcp'
  have hclc := hcl.1
  have hclf := hcl.2
  unfold maxLen at hcap
  have HMo := HM.out
  have hL' := Lib.hid hL
  go_wp2_with fail
  all_goals (first | rw [show n = (m : Int) by omega] | rw [show (q.length : Int) = (m : Int) by omega])
  all_goals
    have j0 : (0 : Int) ≤ (m : Int) := by omega
    have j1 : (m : Int) ≤ (q.length : Int) := by omega
    have j2 : (m : Int) ≤ (cp : Int) := by omega
    have j3 : (q.length : Int) ≤ (cp : Int) := by omega
    have o0d : u2.drew.cell? ⟨u1.heap.size, 0, none⟩ = some (.slice (some ⟨b1, off1, none⟩) xss.length c1) := o0
    have hcd : u2.drew.cell? ⟨b1, off1 + κ, none⟩ = some (.slice R q.length cp) := hclc
    have hfd : u2.drew.frozen? ⟨b1, off1 + κ, none⟩ = false := hclf
    have HC : ∃ (X : Option Addr) (nx cx : Nat), Calls Try.prog 55 #[.slice X nx cx] u2.drew (MadeI (q.drop m) u2.drew) ∧ ((cp = m ∧ X = R ∧ nx = q.length - m ∧ cx = 0) ∨ (cp ≠ m ∧ ∃ g, R = some ⟨g, 0, none⟩ ∧ X = some ⟨g, m, none⟩ ∧ nx = q.length - m ∧ cx = cp - m)) := by
      by_cases hcm : cp = m
      · refine ⟨R, q.length - m, 0, ?_, .inl ⟨hcm, rfl, rfl, rfl⟩⟩
        rw [List.drop_eq_nil_of_le (by omega)]
        exact copyInts_n R 0 (q.length - m) [] u2.drew (B := 0) Rd.nil (by simp only [List.length_nil]; omega) (by omega)
      · rcases hrk.2 with ⟨hvv, _⟩ | ⟨g, cap, cur, hvv, _⟩
        · injection hvv with a1 a2 a3
          omega
        · injection hvv with a1 a2 a3
          subst a1
          refine ⟨_, _, _, ?_, .inr ⟨hcm, g, rfl, rfl, rfl, rfl⟩⟩
          refine copyInts_n _ _ _ (q.drop m) u2.drew (B := u2.heap.size) ?_ (by simp) (by simp; omega)
          have h2 := hrr
          rw [iv_take q m] at h2
          have h3 := h2.post
          have e : (iv (q.take m)).length = m := by simp; omega
          rw [e, Nat.zero_add] at h3
          exact h3
    obtain ⟨X, nx, cx, HC1, HC2⟩ := HC
    replace HC1 := Lib.hid HC1
    have hcld : Cl u2.drew ⟨b1, off1 + κ, none⟩ (.slice R q.length cp) := hcl
    rcases HC2 with ⟨hcm, rfl, rfl, rfl⟩ | ⟨hcm, g, rfl, rfl, rfl, rfl⟩
    all_goals
      go_region_law (go_simp; go_at_call 55; refine (HC1.out).mono ?_; rintro e w4 ⟨A4, c4, rfl, hO4, hb4⟩; have o04 := keep hb4 o0d; have hcl4 := Cl.below hcld hb4; have hclc4 := hcl4.1; have hclf4 := hcl4.2)
      all_goals
        have hb4u : Below u2.heap.size u2 w4 := bel_step hb4 (Below.drew (Below.refl _ _)) (Nat.le_refl _)
        have hz4 := hb4u.size
        have hO4' : w4.ownsRow u2.heap.size 3 1 (.slice A4 (q.drop m).length c4) (q.drop m).length (iv (q.drop m)) := hO4.1
        have hlo4 : ∀ x, At A4 x → u2.heap.size ≤ x ∧ x < w4.heap.size := fun x hx => own_lo' hO4' hx
        have hU := L2.upd (T := At A4) (A' := A4) (n' := q.length - m) (c' := c4) (xs' := q.drop m) hL hb1lo hb1hi hRow hhi hlt (OutS.of_below hb4u) (by simp) (own_wr hO4') (fun x hx => ⟨.inr (hlo4 x hx).1, (hlo4 x hx).2⟩)
        replace hU := hU.new (lo := w.heap.size + 2) (hi := w4.heap.size) (fun x hx => by omega)
        have hbS : Below w.heap.size w (w4.setCell ⟨b1, off1 + κ, none⟩ (.slice A4 (q.length - m) c4)) := by (repeat' (first | (with_reducible exact Below.refl _ _) | (with_reducible refine bel_alloc ?_ ?_ _) | (with_reducible refine Below.setCell ?_ ?_ _) | (with_reducible refine below_drewN ?_ _) | (with_reducible refine Below.drew ?_) | (with_reducible refine bel_step hb1 ?_ ?_) | (with_reducible refine bel_step hb2 ?_ ?_) | (with_reducible refine bel_step hb4u ?_ ?_) | (with_reducible exact Nat.le_refl _) | (with_reducible assumption) | omega | (simp only [World.size_alloc, World.size_setCell, World.size_drew]; omega) | (simp; omega) | (simp; done)))
        have hapt := hL.out κ hlt
        have W0 := set_other (b' := b1) (o' := off1 + κ) (u := (.slice A4 (q.length - m) c4)) o04 (by omega)
        have W4 := (Cl.below (w := u2) f0 hb4u).other (q := ⟨b1, off1 + κ, none⟩) (.slice A4 (q.length - m) c4) (by simp <;> omega)
        have hrk5 := own_outS (own_below' hrk hb4u) (OutS.set (S := fun x => x = b1) w4 (o := off1 + κ) (.slice A4 (q.length - m) c4) rfl) (fun x hx e => hapt (by rw [← HR.out, ← e]; exact hx))
        have hzV : w4.heap.size ≤ (w4.setCell ⟨b1, off1 + κ, none⟩ (.slice A4 (q.length - m) c4)).heap.size := by simp
        have HU := Lib.hid hU
        have hRd := (own_wr hrk5).rd
        rw [iv_take q m] at hRd
        replace hRd := hRd.pre
        clear hU o0 f0 f0c f0f lf0 hcl hclc hclf hL hrk o0d hcd hfd hcld o04 hcl4 hclc4 hclf4 hO4 hO4' hlo4 hb4 hapt hrk5 hrr
        generalize w4.setCell ⟨b1, off1 + κ, none⟩ (.slice A4 (q.length - m) c4) = V3 at *
        have W4c := W4.1
        have W4f := W4.2
        have HC2 := Lib.hid (fun cc => copyInts_n _ cc m (q.take m) V3.drew hRd (by simp; omega) (by omega))
        have lW0 := lt_of_cell' W0
        have lW4 := lt_of_cell' W4c
        clear hRd HC1
        go_wp2_with fail
        have X0 : V3.drew.cell? ⟨u1.heap.size, 0, none⟩ = some (.slice (some ⟨b1, off1, none⟩) xss.length c1) := W0
        have X4 : Cl V3.drew ⟨w.heap.size + 1, 0, none⟩ (.slice none 0 0) := W4
        go_region_law (go_simp; go_at_call 55; refine (HC2.out _).mono ?_; rintro e w5 ⟨A5, c5, rfl, hO5, hb5⟩; have X05 := keep hb5 X0; have X45 := Cl.below X4 hb5; have X45c := X45.1; have X45f := X45.2)
        all_goals
          have hb5u : Below V3.heap.size V3 w5 := bel_step hb5 (Below.drew (Below.refl _ _)) (Nat.le_refl _)
          have hz5 := hb5u.size
          have hml2 : (q.take m).length = m := by simp; omega
          have hO5' : w5.ownsRow V3.heap.size 3 1 (.slice A5 m c5) m (iv (q.take m)) := by
            have h := hO5.1
            rw [hml2] at h
            exact h
          have hlo5 : ∀ x, At A5 x → V3.heap.size ≤ x ∧ x < w5.heap.size := fun x hx => own_lo' hO5' hx
          have HML := Lib.hid hml2
          clear hml2
          go_wp2
          refine bodyPost_ret (v := .tuple #[.agg #[.slice (some ⟨b1, off1, none⟩) xss.length c1], .slice A5 m c5]) (by simp [results, Try.results27, go_sem, X45c]) rfl ⟨_, c1, A5, c5, fun x => w.heap.size + 2 ≤ x ∧ x < w4.heap.size, At A5, by rw [List.length_set, HML.out], ?_, ?_, ?_, ?_, ?_, ?_⟩
          · exact (HU.out.below hb5u).setOut _ (fun h => by have := h.1; omega)
          · exact own_wr (own_outS hO5' (OutS.set (S := fun x => x = w.heap.size + 1) w5 _ rfl) (fun x hx e => by have := hlo5 x hx; omega))
          · intro b hb
            have h1 := hb.1
            have h2 := hb.2
            simp only [World.size_setCell]
            omega
          · intro b hb
            have := hlo5 b hb
            simp only [World.size_setCell]
            omega
          · intro b hb hx
            have h2 := hb.2
            have := hlo5 b hx
            omega
          · (repeat' (first | (with_reducible exact Below.refl _ _) | (with_reducible refine bel_alloc ?_ ?_ _) | (with_reducible refine Below.setCell ?_ ?_ _) | (with_reducible refine below_drewN ?_ _) | (with_reducible refine Below.drew ?_) | (with_reducible refine bel_step hbS ?_ ?_) | (with_reducible refine bel_step hb5u ?_ ?_) | (with_reducible exact Nat.le_refl _) | (with_reducible assumption) | omega | (simp only [World.size_alloc, World.size_setCell, World.size_drew]; omega) | (simp; omega) | (simp; done)))
end Go.Proofs.Ytmfomflmbhognaa
