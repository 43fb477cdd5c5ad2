/- Load, of the program and of the reference. -/
import Derived.Test.YtljholnnhogdkaaMacE
namespace Go.Proofs.Ytljholnnhogdkaa
open Go.ChangeShapes Go.WideShapes Go.ChangeAt Go.RowKit
set_option linter.unusedVariables false
set_option linter.unusedSimpArgs false
attribute [local go_sem ↓] Go.wp_at_zero Go.wp_at_succ

def peA (es : List En) (a : Int) : En := if 0 ≤ a then peOf es (a / 16) else (0, 0)
def enOf (xss : List (List Int)) (us : List Bool) (es : List En) (a : Int) : En := if mkOkB xss us es = true then peA es a else (0, 0)
theorem ld_no {xss : List (List Int)} {us : List Bool} {es : List En} {a : Int} (h : (enOf xss us es a).1 = 0) : ldOf xss us es a = (0, 1) := by
  unfold ldOf
  rw [if_neg]
  rintro ⟨h1, h2, h3⟩
  unfold enOf peA at h
  rw [if_pos h1, if_pos h2] at h
  exact h3 h
theorem ld_yes {xss : List (List Int)} {us : List Bool} {es : List En} {a x y : Int} (h : enOf xss us es a = (x, y)) (hx : x ≠ 0) :
    0 ≤ a ∧ a / 16 < 32 ∧ ∃ (κ t : Nat) (hk : κ < xss.length) (ht : t < xss[κ].length), y = κ ∧ a % 16 = t ∧ t < 16 ∧ xss[κ].length = 16 ∧ ldOf xss us es a = (xss[κ][t], 0) := by
  unfold enOf peA at h
  split at h
  rotate_left
  · injection h with h1; exact absurd h1.symm hx
  rename_i hm
  split at h
  rotate_left
  · injection h with h1; exact absurd h1.symm hx
  rename_i h0
  have hp := h
  unfold peOf at h
  split at h
  rotate_left
  · injection h with h1; exact absurd h1.symm hx
  rename_i hb
  have hg := of_btw hb
  simp only [mkOkB, Bool.and_eq_true] at hm
  have hf := fOk_facts hm.1.1
  have ht := tOk_facts hm.1.2
  have hlt : (a / 16).toNat < es.length := by omega
  rw [List.getD_eq_getElem?_getD, List.getElem?_eq_getElem hlt, Option.getD_some] at h
  have he := ht.2 _ hlt
  rw [h] at he
  have hy := he.2.2.2 hx
  have hy0 := he.2.2.1
  simp only at hy hy0
  have hk : y.toNat < xss.length := by omega
  have h16 := hf.2.2.2 _ hk
  refine ⟨h0, by omega, y.toNat, (a % 16).toNat, hk, by omega, by omega, by omega, by omega, h16, ?_⟩
  unfold ldOf
  rw [if_pos ⟨by simp only [mkOkB, Bool.and_eq_true]; exact hm, h0, by rw [hp]; exact hx⟩, hp]
  simp only [List.getD_eq_getElem?_getD, List.getElem?_eq_getElem hk, Option.getD_some]
  rw [List.getElem?_eq_getElem (by omega), Option.getD_some]
set_option maxHeartbeats 4000000 in
theorem entryAt_i (A : Option Addr) (c : Nat) (B : Option Addr) (d : Nat) (AE : Option Addr) (f : Nat) (xss : List (List Int)) (us : List Bool) (es : List En) (a : Int) (ha : a ≤ 9223372036854775807) (w : World) {B1 B2 B3 : Nat} (hr : Rd2 iv w B1 A xss) (hs : Rd w B2 B (bl us)) (ht : Rd w B3 AE (pv es)) (hn : MRows xss us es) (x y : Int) (hv : enOf xss us es a = (x, y)) :
    Calls Try.prog 72 #[.agg #[.slice A xss.length c, .slice B us.length d, .slice AE es.length f], .int .i64 a] w fun e w' => e = .returned (.agg #[.int .i64 x, .int .i64 y]) ∧ Below w.heap.size w w' := by
  by_cases h0 : a < 0
  · have h : x = 0 ∧ y = 0 := by
      have e : enOf xss us es a = (0, 0) := by unfold enOf peA; split <;> simp; omega
      rw [e] at hv; injection hv with h1 h2; exact ⟨h1.symm, h2.symm⟩
    obtain ⟨rfl, rfl⟩ := h
    clear hv
    go_enter Try.func72, Try.ntmps72
    go_wp2
    refine bodyPost_ret (v := .agg #[.int .i64 0, .int .i64 0]) (by simp [results, Try.results72, go_sem]) rfl ⟨rfl, ?_⟩
    (repeat' (first | (with_reducible exact Below.refl _ _) | (with_reducible refine bel_alloc ?_ ?_ _) | (with_reducible refine Below.setCell ?_ ?_ _) | (with_reducible refine below_drewN ?_ _) | (with_reducible refine Below.drew ?_) | (with_reducible exact Nat.le_refl _) | (with_reducible assumption) | omega | (simp only [World.size_alloc, World.size_setCell, World.size_drew]; omega) | (simp; omega) | (simp; done)))
  · have h00 : 0 ≤ a := by omega
    cases hm : mkOkB xss us es with
    | false =>
      have h : x = 0 ∧ y = 0 := by
        have e : enOf xss us es a = (0, 0) := by unfold enOf; rw [hm]; rfl
        rw [e] at hv; injection hv with h1 h2; exact ⟨h1.symm, h2.symm⟩
      obtain ⟨rfl, rfl⟩ := h
      clear hv
      go_enter Try.func72, Try.ntmps72
      go_wp2_with fail
      refine (machineOk_i _ _ _ _ _ _ _ _ _ _ ((hr.alloc _).alloc _) ((hs.alloc _).alloc _) ((ht.alloc _).alloc _) hn _ hm).mono ?_
      rintro e w1 ⟨rfl, hb1⟩
      have k0 : w1.cell? ⟨w.heap.size + 1, 0, none⟩ = some (.int .i64 0) := keep hb1 (by simp [go_sem])
      have k1 : w1.cell? ⟨w.heap.size + 1, 1, none⟩ = some (.int .i64 0) := keep hb1 (by simp [go_sem])
      have kf0 : w1.frozen? ⟨w.heap.size + 1, 0, none⟩ = false := keepf hb1 (by simp [go_sem]) (by simp [go_sem])
      have kf1 : w1.frozen? ⟨w.heap.size + 1, 1, none⟩ = false := keepf hb1 (by simp [go_sem]) (by simp [go_sem])
      clear hm
      go_wp2
      refine bodyPost_ret (v := .agg #[.int .i64 0, .int .i64 0]) (by simp [results, Try.results72, go_sem, k0, k1]) rfl ⟨rfl, ?_⟩
      (repeat' (first | (with_reducible exact Below.refl _ _) | (with_reducible refine bel_alloc ?_ ?_ _) | (with_reducible refine Below.setCell ?_ ?_ _) | (with_reducible refine below_drewN ?_ _) | (with_reducible refine Below.drew ?_) | (with_reducible refine bel_step hb1 ?_ ?_) | (with_reducible exact Nat.le_refl _) | (with_reducible assumption) | omega | (simp only [World.size_alloc, World.size_setCell, World.size_drew]; omega) | (simp; omega) | (simp; done)))
    | true =>
      have hpe : peOf es (a / 16) = (x, y) := by
        have e : enOf xss us es a = peOf es (a / 16) := by unfold enOf peA; rw [hm, if_pos rfl, if_pos h00]
        rw [e] at hv; exact hv
      obtain ⟨g, hg⟩ : ∃ g, g = a / 16 := ⟨_, rfl⟩
      have htd : a.tdiv 16 = g := by rw [hg]; exact Int.tdiv_eq_ediv_of_nonneg h00
      have hg0 : 0 ≤ g ∧ g ≤ 9223372036854775807 := by omega
      rw [← hg] at hpe
      clear hv hg
      replace ht := ht.lt
      go_enter Try.func72, Try.ntmps72
      go_wp2_with fail
      refine (machineOk_i _ _ _ _ _ _ _ _ _ _ ((hr.alloc _).alloc _) ((hs.alloc _).alloc _) ((ht.alloc _).alloc _) hn _ hm).mono ?_
      rintro e w1 ⟨rfl, hb1⟩
      have k0 : w1.cell? ⟨w.heap.size + 1, 0, none⟩ = some (.int .i64 0) := keep hb1 (by simp [go_sem])
      have k1 : w1.cell? ⟨w.heap.size + 1, 1, none⟩ = some (.int .i64 0) := keep hb1 (by simp [go_sem])
      have kf0 : w1.frozen? ⟨w.heap.size + 1, 0, none⟩ = false := keepf hb1 (by simp [go_sem]) (by simp [go_sem])
      have kf1 : w1.frozen? ⟨w.heap.size + 1, 1, none⟩ = false := keepf hb1 (by simp [go_sem]) (by simp [go_sem])
      have b0 : w1.cell? ⟨w.heap.size, 0, none⟩ = some (.slice A xss.length c) := keep hb1 (by simp [go_sem])
      have b1 : w1.cell? ⟨w.heap.size, 1, none⟩ = some (.slice B us.length d) := keep hb1 (by simp [go_sem])
      have b2 : w1.cell? ⟨w.heap.size, 2, none⟩ = some (.slice AE es.length f) := keep hb1 (by simp [go_sem])
      have hz1 := hb1.size
      simp only [World.size_alloc] at hz1
      have ht1 := (((ht.alloc _).alloc _).below hb1).lt
      clear hm
      go_wp2_with fail
      refine (pageEntry_i _ _ _ _ _ ht1 hn.2.2 _ _ hpe).mono ?_
      rintro e w2 ⟨rfl, hb2⟩
      replace kf0 := keepf hb2 (lt_of_cell' k0) kf0
      replace kf1 := keepf hb2 (lt_of_cell' k1) kf1
      replace k0 := keep hb2 k0
      replace k1 := keep hb2 k1
      clear hpe
      go_wp2
      refine bodyPost_ret (v := .agg #[.int .i64 x, .int .i64 y]) (by simp [results, Try.results72, go_sem, k0, k1]) rfl ⟨rfl, ?_⟩
      (repeat' (first | (with_reducible exact Below.refl _ _) | (with_reducible refine bel_alloc ?_ ?_ _) | (with_reducible refine Below.setCell ?_ ?_ _) | (with_reducible refine below_drewN ?_ _) | (with_reducible refine Below.drew ?_) | (with_reducible refine bel_step hb1 ?_ ?_) | (with_reducible refine bel_step hb2 ?_ ?_) | (with_reducible exact Nat.le_refl _) | (with_reducible assumption) | omega | (simp only [World.size_alloc, World.size_setCell, World.size_drew]; omega) | (simp; omega) | (simp; done)))
set_option maxHeartbeats 4000000 in
theorem l07Entry_s (A : Option Addr) (c : Nat) (B : Option Addr) (d : Nat) (AE : Option Addr) (f : Nat) (xss : List (List Int)) (us : List Bool) (es : List En) (a : Int) (ha : a ≤ 9223372036854775807) (w : World) {B3 : Nat} (ht : Rd w B3 AE (pv es)) (hn : MRows xss us es) (x y : Int) (hv : peA es a = (x, y)) :
    Calls Try.prog 50 #[.agg #[.slice A xss.length c, .slice B us.length d, .slice AE es.length f], .int .i64 a] w fun e w' => e = .returned (.tuple #[.agg #[.int .i64 x, .int .i64 y], .int .i64 (if 0 ≤ a then a % 16 else 0)]) ∧ Below w.heap.size w w' := by
  by_cases h0 : a < 0
  · have h : x = 0 ∧ y = 0 := by
      have e : peA es a = (0, 0) := by unfold peA; rw [if_neg (by omega)]
      rw [e] at hv; injection hv with h1 h2; exact ⟨h1.symm, h2.symm⟩
    obtain ⟨rfl, rfl⟩ := h
    rw [if_neg (show ¬ 0 ≤ a by omega)]
    clear hv
    go_enter Try.func50, Try.ntmps50
    go_wp2
    refine bodyPost_ret (v := .tuple #[.agg #[.int .i64 0, .int .i64 0], .int .i64 0]) (by simp [results, Try.results50, go_sem]) rfl ⟨rfl, ?_⟩
    (repeat' (first | (with_reducible exact Below.refl _ _) | (with_reducible refine bel_alloc ?_ ?_ _) | (with_reducible refine Below.setCell ?_ ?_ _) | (with_reducible refine below_drewN ?_ _) | (with_reducible refine Below.drew ?_) | (with_reducible exact Nat.le_refl _) | (with_reducible assumption) | omega | (simp only [World.size_alloc, World.size_setCell, World.size_drew]; omega) | (simp; omega) | (simp; done)))
  · have h00 : 0 ≤ a := by omega
    rw [if_pos h00]
    have hpe : peOf es (a / 16) = (x, y) := by
      have e : peA es a = peOf es (a / 16) := by unfold peA; rw [if_pos h00]
      rw [e] at hv; exact hv
    obtain ⟨g, hg⟩ : ∃ g, g = a / 16 := ⟨_, rfl⟩
    obtain ⟨t, hte⟩ : ∃ t, t = a % 16 := ⟨_, rfl⟩
    have htd : a.tdiv 16 = g := by rw [hg]; exact Int.tdiv_eq_ediv_of_nonneg h00
    have htm : a.tmod 16 = t := by rw [hte]; exact Int.tmod_eq_emod_of_nonneg h00
    have hg0 : 0 ≤ g ∧ g ≤ 9223372036854775807 := by omega
    have ht0 : 0 ≤ t ∧ t ≤ 15 := by omega
    rw [← hg] at hpe
    rw [← hte]
    clear hv hg hte
    replace ht := ht.lt
    go_enter Try.func50, Try.ntmps50
    go_wp2_with fail
    refine (pageEntry_s _ _ _ _ _ ((ht.alloc _).alloc _) hn.2.2 _ _ hpe).mono ?_
    rintro e w2 ⟨rfl, hb2⟩
    have k0 : w2.cell? ⟨w.heap.size + 1, 0, none⟩ = some (.int .i64 0) := keep hb2 (by simp [go_sem])
    have k1 : w2.cell? ⟨w.heap.size + 1, 1, none⟩ = some (.int .i64 0) := keep hb2 (by simp [go_sem])
    have kf0 : w2.frozen? ⟨w.heap.size + 1, 0, none⟩ = false := keepf hb2 (by simp [go_sem]) (by simp [go_sem])
    have kf1 : w2.frozen? ⟨w.heap.size + 1, 1, none⟩ = false := keepf hb2 (by simp [go_sem]) (by simp [go_sem])
    have hz1 := hb2.size
    simp only [World.size_alloc] at hz1
    clear hpe
    go_wp2
    refine bodyPost_ret (v := .tuple #[.agg #[.int .i64 x, .int .i64 y], .int .i64 t]) (by simp [results, Try.results50, go_sem, k0, k1]) rfl ⟨rfl, ?_⟩
    (repeat' (first | (with_reducible exact Below.refl _ _) | (with_reducible refine bel_alloc ?_ ?_ _) | (with_reducible refine Below.setCell ?_ ?_ _) | (with_reducible refine below_drewN ?_ _) | (with_reducible refine Below.drew ?_) | (with_reducible refine bel_step hb2 ?_ ?_) | (with_reducible exact Nat.le_refl _) | (with_reducible assumption) | omega | (simp only [World.size_alloc, World.size_setCell, World.size_drew]; omega) | (simp; omega) | (simp; done)))
set_option maxHeartbeats 4000000 in
theorem load_i (A : Option Addr) (c : Nat) (B : Option Addr) (d : Nat) (AE : Option Addr) (f : Nat) (xss : List (List Int)) (us : List Bool) (es : List En) (a : Int) (ha : a ≤ 9223372036854775807) (w : World) {B1 B2 B3 : Nat} (hr : Rd2 iv w B1 A xss) (hs : Rd w B2 B (bl us)) (ht : Rd w B3 AE (pv es)) (hn : MRows xss us es) (v ft : Int) (hv : ldOf xss us es a = (v, ft)) :
    Calls Try.prog 52 #[.agg #[.slice A xss.length c, .slice B us.length d, .slice AE es.length f], .int .i64 a] w fun e w' => e = .returned (.tuple #[.int .i64 v, .int .i64 ft]) ∧ Below w.heap.size w w' := by
  obtain ⟨x, y, hxy⟩ : ∃ x y, enOf xss us es a = (x, y) := ⟨_, _, rfl⟩
  by_cases hx : x = 0
  · subst hx
    have h : v = 0 ∧ ft = 1 := by
      rw [ld_no (by rw [hxy])] at hv; injection hv with h1 h2; exact ⟨h1.symm, h2.symm⟩
    obtain ⟨rfl, rfl⟩ := h
    clear hv
    go_enter Try.func52, Try.ntmps52
    go_wp2_with fail
    refine (entryAt_i _ _ _ _ _ _ _ _ _ _ ha _ (hr.alloc _) (hs.alloc _) (ht.alloc _) hn _ _ hxy).mono ?_
    rintro e w1 ⟨rfl, hb1⟩
    clear hxy
    go_wp2
    refine bodyPost_ret (v := .tuple #[.int .i64 0, .int .i64 1]) (by simp [results, Try.results52, go_sem]) rfl ⟨rfl, ?_⟩
    (repeat' (first | (with_reducible exact Below.refl _ _) | (with_reducible refine bel_alloc ?_ ?_ _) | (with_reducible refine Below.setCell ?_ ?_ _) | (with_reducible refine below_drewN ?_ _) | (with_reducible refine Below.drew ?_) | (with_reducible refine bel_step hb1 ?_ ?_) | (with_reducible exact Nat.le_refl _) | (with_reducible assumption) | omega | (simp only [World.size_alloc, World.size_setCell, World.size_drew]; omega) | (simp; omega) | (simp; done)))
  · obtain ⟨h0, h32, κ, t, hk, htl, rfl, hat, ht16, h16, hld⟩ := ld_yes hxy hx
    have hvf : v = xss[κ][t] ∧ ft = 0 := by
      rw [hld] at hv; injection hv with h1 h2; exact ⟨h1.symm, h2.symm⟩
    obtain ⟨hvv, rfl⟩ := hvf
    have hxb : (x == 0) = false := by simp [hx]
    have htm : a.tmod 16 = (t : Int) := by rw [Int.tmod_eq_emod_of_nonneg h0]; exact hat
    obtain ⟨b, off, A1, c1, hA, -, hc, hrx⟩ := hr.lt.row hk
    obtain ⟨b3, off3, hA3, -, hx0⟩ := hrx.int htl
    subst hA hA3
    rw [← hvv] at hx0
    have i1 : (κ : Int) < (xss.length : Int) := by omega
    have i0 : (0 : Int) ≤ (κ : Int) := by omega
    have i2 : (t : Int) < (xss[κ].length : Int) := by omega
    have i3 : (0 : Int) ≤ (t : Int) := by omega
    clear hvv hld hv hat h16 hrx htl
    generalize xss[κ].length = ql at *
    clear hx
    go_enter Try.func52, Try.ntmps52
    go_wp2_with fail
    refine (entryAt_i _ _ _ _ _ _ _ _ _ _ ha _ (hr.alloc _) (hs.alloc _) (ht.alloc _) hn _ _ hxy).mono ?_
    rintro e w1 ⟨rfl, hb1⟩
    have k0 : w1.cell? ⟨w.heap.size, 0, none⟩ = some (.slice (some ⟨b, off, none⟩) xss.length c) := keep hb1 (by simp [go_sem])
    have k1 : w1.cell? ⟨w.heap.size, 1, none⟩ = some (.slice B us.length d) := keep hb1 (by simp [go_sem])
    have k2 : w1.cell? ⟨w.heap.size, 2, none⟩ = some (.slice AE es.length f) := keep hb1 (by simp [go_sem])
    have hz1 := hb1.size
    simp only [World.size_alloc] at hz1
    replace hc := keep hb1 (cell_al hc _)
    replace hx0 := keep hb1 (cell_al hx0 _)
    have lhc := lt_of_cell' hc
    have lhx := lt_of_cell' hx0
    have lk := lt_of_cell' k0
    clear hxy
    go_wp2
    refine bodyPost_ret (v := .tuple #[.int .i64 _, .int .i64 0]) (by simp [results, Try.results52, go_sem]) rfl ⟨rfl, ?_⟩
    (repeat' (first | (with_reducible exact Below.refl _ _) | (with_reducible refine bel_alloc ?_ ?_ _) | (with_reducible refine Below.setCell ?_ ?_ _) | (with_reducible refine below_drewN ?_ _) | (with_reducible refine Below.drew ?_) | (with_reducible refine bel_step hb1 ?_ ?_) | (with_reducible exact Nat.le_refl _) | (with_reducible assumption) | omega | (simp only [World.size_alloc, World.size_setCell, World.size_drew]; omega) | (simp; omega) | (simp; done)))
set_option maxHeartbeats 4000000 in
theorem load_s (A : Option Addr) (c : Nat) (B : Option Addr) (d : Nat) (AE : Option Addr) (f : Nat) (xss : List (List Int)) (us : List Bool) (es : List En) (a : Int) (ha : a ≤ 9223372036854775807) (w : World) {B1 B2 B3 : Nat} (hr : Rd2 iv w B1 A xss) (hs : Rd w B2 B (bl us)) (ht : Rd w B3 AE (pv es)) (hn : MRows xss us es) (v ft : Int) (hv : ldOf xss us es a = (v, ft)) :
    Calls Try.prog 53 #[.agg #[.slice A xss.length c, .slice B us.length d, .slice AE es.length f], .int .i64 a] w fun e w' => e = .returned (.tuple #[.int .i64 v, .int .i64 ft]) ∧ Below w.heap.size w w' := by
  obtain ⟨x, y, hxy⟩ : ∃ x y, peA es a = (x, y) := ⟨_, _, rfl⟩
  replace ht := ht.lt
  replace hs := hs.lt
  replace hr := hr.lt
  cases hm : mkOkB xss us es with
  | false =>
    have h : v = 0 ∧ ft = 1 := by
      rw [ld_no (by unfold enOf; rw [hm]; rfl)] at hv; injection hv with h1 h2; exact ⟨h1.symm, h2.symm⟩
    obtain ⟨rfl, rfl⟩ := h
    clear hv
    go_enter Try.func53, Try.ntmps53
    go_wp2_with fail
    refine (l07Entry_s _ _ _ _ _ _ _ _ _ _ ha _ (ht.alloc _) hn _ _ hxy).mono ?_
    rintro e w1 ⟨rfl, hb1⟩
    generalize (if 0 ≤ a then a % 16 else 0) = t at *
    have hr1 := ((hr.alloc _).below hb1).lt
    have hs1 := ((hs.alloc _).below hb1).lt
    have ht1 := ((ht.alloc _).below hb1).lt
    have k0 : w1.cell? ⟨w.heap.size, 0, none⟩ = some (.slice A xss.length c) := keep hb1 (by simp [go_sem])
    have k1 : w1.cell? ⟨w.heap.size, 1, none⟩ = some (.slice B us.length d) := keep hb1 (by simp [go_sem])
    have k2 : w1.cell? ⟨w.heap.size, 2, none⟩ = some (.slice AE es.length f) := keep hb1 (by simp [go_sem])
    have lk := lt_of_cell' k0
    clear hxy
    go_wp2_with fail
    refine (machineOk_s _ _ _ _ _ _ _ _ _ _ (hr1.alloc _) (hs1.alloc _) (ht1.alloc _) hn _ hm).mono ?_
    rintro e w2 ⟨rfl, hb2⟩
    clear hm
    go_wp2
    refine bodyPost_ret (v := .tuple #[.int .i64 0, .int .i64 1]) (by simp [results, Try.results53, go_sem]) rfl ⟨rfl, ?_⟩
    (repeat' (first | (with_reducible exact Below.refl _ _) | (with_reducible refine bel_alloc ?_ ?_ _) | (with_reducible refine Below.setCell ?_ ?_ _) | (with_reducible refine below_drewN ?_ _) | (with_reducible refine Below.drew ?_) | (with_reducible refine bel_step hb1 ?_ ?_) | (with_reducible refine bel_step hb2 ?_ ?_) | (with_reducible exact Nat.le_refl _) | (with_reducible assumption) | omega | (simp only [World.size_alloc, World.size_setCell, World.size_drew]; omega) | (simp; omega) | (simp; done)))
  | true =>
    have hen : enOf xss us es a = (x, y) := by unfold enOf; rw [hm, if_pos rfl]; exact hxy
    by_cases hx : x = 0
    · subst hx
      have h : v = 0 ∧ ft = 1 := by
        rw [ld_no (by rw [hen])] at hv; injection hv with h1 h2; exact ⟨h1.symm, h2.symm⟩
      obtain ⟨rfl, rfl⟩ := h
      clear hv hen
      go_enter Try.func53, Try.ntmps53
      go_wp2_with fail
      refine (l07Entry_s _ _ _ _ _ _ _ _ _ _ ha _ (ht.alloc _) hn _ _ hxy).mono ?_
      rintro e w1 ⟨rfl, hb1⟩
      generalize (if 0 ≤ a then a % 16 else 0) = t at *
      have hr1 := ((hr.alloc _).below hb1).lt
      have hs1 := ((hs.alloc _).below hb1).lt
      have ht1 := ((ht.alloc _).below hb1).lt
      have k0 : w1.cell? ⟨w.heap.size, 0, none⟩ = some (.slice A xss.length c) := keep hb1 (by simp [go_sem])
      have k1 : w1.cell? ⟨w.heap.size, 1, none⟩ = some (.slice B us.length d) := keep hb1 (by simp [go_sem])
      have k2 : w1.cell? ⟨w.heap.size, 2, none⟩ = some (.slice AE es.length f) := keep hb1 (by simp [go_sem])
      have lk := lt_of_cell' k0
      clear hxy
      go_wp2_with fail
      refine (machineOk_s _ _ _ _ _ _ _ _ _ _ (hr1.alloc _) (hs1.alloc _) (ht1.alloc _) hn _ hm).mono ?_
      rintro e w2 ⟨rfl, hb2⟩
      have j0 : w2.cell? ⟨w1.heap.size, 0, none⟩ = some (.int .i64 0) := keep hb2 (by simp [go_sem])
      have j1 : w2.cell? ⟨w1.heap.size, 1, none⟩ = some (.int .i64 y) := keep hb2 (by simp [go_sem])
      clear hm
      go_wp2
      refine bodyPost_ret (v := .tuple #[.int .i64 0, .int .i64 1]) (by simp [results, Try.results53, go_sem]) rfl ⟨rfl, ?_⟩
      (repeat' (first | (with_reducible exact Below.refl _ _) | (with_reducible refine bel_alloc ?_ ?_ _) | (with_reducible refine Below.setCell ?_ ?_ _) | (with_reducible refine below_drewN ?_ _) | (with_reducible refine Below.drew ?_) | (with_reducible refine bel_step hb1 ?_ ?_) | (with_reducible refine bel_step hb2 ?_ ?_) | (with_reducible exact Nat.le_refl _) | (with_reducible assumption) | omega | (simp only [World.size_alloc, World.size_setCell, World.size_drew]; omega) | (simp; omega) | (simp; done)))
    · obtain ⟨h0, h32, κ, t, hk, htl, rfl, hat, ht16, h16, hld⟩ := ld_yes hen hx
      have hvf : v = xss[κ][t] ∧ ft = 0 := by
        rw [hld] at hv; injection hv with h1 h2; exact ⟨h1.symm, h2.symm⟩
      obtain ⟨hvv, rfl⟩ := hvf
      have hxb : (x == 0) = false := by simp [hx]
      have hte : (if 0 ≤ a then a % 16 else 0) = (t : Int) := by rw [if_pos h0]; exact hat
      obtain ⟨b, off, A1, c1, hA, -, hc, hrx⟩ := hr.row hk
      obtain ⟨b3, off3, hA3, -, hx0⟩ := hrx.int htl
      subst hA hA3
      rw [← hvv] at hx0
      have i1 : (κ : Int) < (xss.length : Int) := by omega
      have i0 : (0 : Int) ≤ (κ : Int) := by omega
      have i2 : (t : Int) < (xss[κ].length : Int) := by omega
      have i3 : (0 : Int) ≤ (t : Int) := by omega
      clear hvv hld hv hat h16 hrx htl hen
      generalize xss[κ].length = ql at *
      clear hx
      go_enter Try.func53, Try.ntmps53
      go_wp2_with fail
      refine (l07Entry_s _ _ _ _ _ _ _ _ _ _ ha _ (ht.alloc _) hn _ _ hxy).mono ?_
      rintro e w1 ⟨rfl, hb1⟩
      rw [hte]
      have hr1 := ((hr.alloc _).below hb1).lt
      have hs1 := ((hs.alloc _).below hb1).lt
      have ht1 := ((ht.alloc _).below hb1).lt
      have k0 : w1.cell? ⟨w.heap.size, 0, none⟩ = some (.slice (some ⟨b, off, none⟩) xss.length c) := keep hb1 (by simp [go_sem])
      have k1 : w1.cell? ⟨w.heap.size, 1, none⟩ = some (.slice B us.length d) := keep hb1 (by simp [go_sem])
      have k2 : w1.cell? ⟨w.heap.size, 2, none⟩ = some (.slice AE es.length f) := keep hb1 (by simp [go_sem])
      have hz1 := hb1.size
      simp only [World.size_alloc] at hz1
      replace hc := keep hb1 (cell_al hc _)
      replace hx0 := keep hb1 (cell_al hx0 _)
      have lk := lt_of_cell' k0
      clear hxy hte
      go_wp2_with fail
      refine (machineOk_s _ _ _ _ _ _ _ _ _ _ (hr1.alloc _) (hs1.alloc _) (ht1.alloc _) hn _ hm).mono ?_
      rintro e w2 ⟨rfl, hb2⟩
      have j0 : w2.cell? ⟨w1.heap.size, 0, none⟩ = some (.int .i64 x) := keep hb2 (by simp [go_sem])
      have j1 : w2.cell? ⟨w1.heap.size, 1, none⟩ = some (.int .i64 κ) := keep hb2 (by simp [go_sem])
      replace hc := keep hb2 (cell_al hc _)
      replace hx0 := keep hb2 (cell_al hx0 _)
      replace k0 := keep hb2 (cell_al k0 _)
      have lhc := lt_of_cell' hc
      have lhx := lt_of_cell' hx0
      clear hm k1 k2
      go_wp2
      refine bodyPost_ret (v := .tuple #[.int .i64 _, .int .i64 0]) (by simp [results, Try.results53, go_sem]) rfl ⟨rfl, ?_⟩
      (repeat' (first | (with_reducible exact Below.refl _ _) | (with_reducible refine bel_alloc ?_ ?_ _) | (with_reducible refine Below.setCell ?_ ?_ _) | (with_reducible refine below_drewN ?_ _) | (with_reducible refine Below.drew ?_) | (with_reducible refine bel_step hb1 ?_ ?_) | (with_reducible refine bel_step hb2 ?_ ?_) | (with_reducible exact Nat.le_refl _) | (with_reducible assumption) | omega | (simp only [World.size_alloc, World.size_setCell, World.size_drew]; omega) | (simp; omega) | (simp; done)))
end Go.Proofs.Ytljholnnhogdkaa
