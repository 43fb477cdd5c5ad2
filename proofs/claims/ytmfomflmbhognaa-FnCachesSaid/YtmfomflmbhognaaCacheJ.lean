/- CacheTake, of the program and of the reference: where nothing is taken. -/
import Derived.Test.YtmfomflmbhognaaCacheI
import Derived.Deep.RegionHeld3
import Derived.Deep.DrawnRows
namespace Go.Proofs.Ytmfomflmbhognaa
open Go.ChangeShapes Go.WideShapes Go.ChangeAt Go.RowKit
set_option linter.unusedVariables false
attribute [local go_sem ↓] Go.wp_at_zero Go.wp_at_succ

theorem hasL_lt {xss : List (List Int)} {κ : Nat} (h : hasL xss κ = true) : κ < xss.length := by
  simp only [hasL, Bool.and_eq_true, cOkB, decide_eq_true_eq] at h
  have := of_btw h.1
  omega
theorem hasL_4 {xss : List (List Int)} {k : Int} (h : hasL xss k = true) : xss.length = 4 := by
  simp only [hasL, Bool.and_eq_true, cOkB, decide_eq_true_eq] at h
  exact h.2.1.1
theorem hasL_nat {xss : List (List Int)} {k : Int} (h : hasL xss k = true) : ∃ κ : Nat, k = κ := by
  simp only [hasL, Bool.and_eq_true] at h
  have := of_btw h.1
  exact ⟨k.toNat, by omega⟩
theorem rows_set {xss : List (List Int)} {κ : Nat} {q : List Int} (h : Rows xss) (hq : q.length ≤ 1048576) : Rows (xss.set κ q) := by
  refine ⟨by rw [List.length_set]; exact h.1, fun l hl => ?_⟩
  rcases List.mem_or_eq_of_mem_set hl with h1 | h1
  · exact h.2 l h1
  · rw [h1]; exact hq
def MadeTake (ys : List (List Int)) (a : Int) (ok : Bool) (w : World) (e : Ending) (w' : World) : Prop :=
  ∃ A c S, e = .returned (.tuple #[.agg #[.slice A ys.length c], .int .i64 a, .bool ok]) ∧ Wr2 iv w' S A ys ∧ New S w w' ∧ Below w.heap.size w w'
set_option maxHeartbeats 8000000 in
set_option maxRecDepth 100000 in
theorem cacheTake_i_no1 (A : Option Addr) (c : Nat) (xss : List (List Int)) (k : Int) (w : World) {B : Nat} (hr : Rd2 iv w B A xss) (hn : Rows xss) (hv : hasL xss k = false) :
    Calls Try.prog 16 #[.agg #[.slice A xss.length c], .int .i64 k] w (MadeTake xss (-1) false w) := by
  go_enter Try.func16, Try.ntmps16
  go_wp2_with fail
  refine (copyCache_i _ _ _ _ ((hr.alloc _).alloc _) hn).mono ?_
  rintro e u1 ⟨A1, c1, rfl, hcp, hO, hb1⟩
  replace hr := ((hr.alloc _).alloc _).below hb1
  have q0 : u1.cell? ⟨w.heap.size, 0, none⟩ = some (.slice A xss.length c) := keep hb1 (by simp [go_sem])
  have f0 : Cl u1 ⟨w.heap.size + 1, 0, none⟩ (.slice none 0 0) := Cl.below (by constructor <;> simp [go_sem]) hb1
  have hz1 := hb1.size
  try simp only [World.size_alloc, World.size_drew] at hz1
  have lq0 := lt_of_cell' q0
  have f0c := f0.1
  have f0f := f0.2
  have lf0 := lt_of_cell' f0c
  replace hO := hO.mono (lo' := w.heap.size + 2) (by simp only [World.size_alloc]; omega)
  go_wp2_with fail
  refine (hasList_i _ _ _ _ _ (hr.alloc _) hn false hv).mono ?_
  rintro e u2 ⟨rfl, hb2⟩
  clear lq0
  clear f0c f0f
  clear lf0
  replace hr := (hr.alloc _).below hb2
  replace q0 := keep hb2 (cell_al q0 _)
  replace f0 := (f0.alloc _).below hb2
  replace hO := (hO.alloc _).below hb2
  have o0 : u2.cell? ⟨u1.heap.size, 0, none⟩ = some (.slice A1 xss.length c1) := keep hb2 (by simp [go_sem])
  have hz2 := hb2.size
  try simp only [World.size_alloc, World.size_drew] at hz2
  have lq0 := lt_of_cell' q0
  have lo0 := lt_of_cell' o0
  have f0c := f0.1
  have f0f := f0.2
  have lf0 := lt_of_cell' f0c
  clear hv
  have hW := hO.wr2
  have hN : ∀ b, (w.heap.size + 2 ≤ b ∧ b < u1.heap.size) → w.heap.size + 2 ≤ b ∧ b < u1.heap.size := fun _ h => h
  have HW := Lib.hid hW
  clear hW hO
  go_wp2
  refine bodyPost_ret (v := .tuple #[.agg #[.slice A1 xss.length c1], .int .i64 (-1), .bool false]) (by simp [results, Try.results16, go_sem, f0c]) rfl ⟨A1, c1, fun x => w.heap.size + 2 ≤ x ∧ x < u1.heap.size, rfl, ?_, ?_, ?_⟩
  · exact HW.out.setOut _ (fun h => by have := h.1; omega)
  · intro b hb
    have := hN b hb
    simp only [World.size_setCell]
    omega
  · (repeat' (first | (with_reducible exact Below.refl _ _) | (with_reducible refine bel_alloc ?_ ?_ _) | (with_reducible refine Below.setCell ?_ ?_ _) | (with_reducible refine below_drewN ?_ _) | (with_reducible refine Below.drew ?_) | (with_reducible refine bel_step hb1 ?_ ?_) | (with_reducible refine bel_step hb2 ?_ ?_) | (with_reducible exact Nat.le_refl _) | (with_reducible assumption) | omega | (simp only [World.size_alloc, World.size_setCell, World.size_drew]; omega) | (simp; omega) | (simp; done)))
set_option maxHeartbeats 8000000 in
set_option maxRecDepth 100000 in
theorem cacheTake_s_no1 (A : Option Addr) (c : Nat) (xss : List (List Int)) (k : Int) (w : World) {B : Nat} (hr : Rd2 iv w B A xss) (hn : Rows xss) (hv : hasL xss k = false) :
    Calls Try.prog 35 #[.agg #[.slice A xss.length c], .int .i64 k] w (MadeTake xss (-1) false w) := by
  go_enter Try.func35, Try.ntmps35
  go_wp2_with fail
  refine (l17Copy_s _ _ _ _ ((hr.alloc _).alloc _) hn).mono ?_
  rintro e u1 ⟨A1, c1, rfl, hcp, hO, hb1⟩
  replace hr := ((hr.alloc _).alloc _).below hb1
  have q0 : u1.cell? ⟨w.heap.size, 0, none⟩ = some (.slice A xss.length c) := keep hb1 (by simp [go_sem])
  have f0 : Cl u1 ⟨w.heap.size + 1, 0, none⟩ (.slice none 0 0) := Cl.below (by constructor <;> simp [go_sem]) hb1
  have hz1 := hb1.size
  try simp only [World.size_alloc, World.size_drew] at hz1
  have lq0 := lt_of_cell' q0
  have f0c := f0.1
  have f0f := f0.2
  have lf0 := lt_of_cell' f0c
  replace hO := hO.mono (lo' := w.heap.size + 2) (by simp only [World.size_alloc]; omega)
  go_wp2_with fail
  refine (l17Is_s _ _ _ _ _ (hr.alloc _) hn false hv).mono ?_
  rintro e u2 ⟨rfl, hb2⟩
  clear lq0
  clear f0c f0f
  clear lf0
  replace hr := (hr.alloc _).below hb2
  replace q0 := keep hb2 (cell_al q0 _)
  replace f0 := (f0.alloc _).below hb2
  replace hO := (hO.alloc _).below hb2
  have o0 : u2.cell? ⟨u1.heap.size, 0, none⟩ = some (.slice A1 xss.length c1) := keep hb2 (by simp [go_sem])
  have hz2 := hb2.size
  try simp only [World.size_alloc, World.size_drew] at hz2
  have lq0 := lt_of_cell' q0
  have lo0 := lt_of_cell' o0
  have f0c := f0.1
  have f0f := f0.2
  have lf0 := lt_of_cell' f0c
  clear hv
  have hW := hO.wr2
  have hN : ∀ b, (w.heap.size + 2 ≤ b ∧ b < u1.heap.size) → w.heap.size + 2 ≤ b ∧ b < u1.heap.size := fun _ h => h
  have HW := Lib.hid hW
  clear hW hO
  go_wp2
  refine bodyPost_ret (v := .tuple #[.agg #[.slice A1 xss.length c1], .int .i64 (-1), .bool false]) (by simp [results, Try.results35, go_sem, f0c]) rfl ⟨A1, c1, fun x => w.heap.size + 2 ≤ x ∧ x < u1.heap.size, rfl, ?_, ?_, ?_⟩
  · exact HW.out.setOut _ (fun h => by have := h.1; omega)
  · intro b hb
    have := hN b hb
    simp only [World.size_setCell]
    omega
  · (repeat' (first | (with_reducible exact Below.refl _ _) | (with_reducible refine bel_alloc ?_ ?_ _) | (with_reducible refine Below.setCell ?_ ?_ _) | (with_reducible refine below_drewN ?_ _) | (with_reducible refine Below.drew ?_) | (with_reducible refine bel_step hb1 ?_ ?_) | (with_reducible refine bel_step hb2 ?_ ?_) | (with_reducible exact Nat.le_refl _) | (with_reducible assumption) | omega | (simp only [World.size_alloc, World.size_setCell, World.size_drew]; omega) | (simp; omega) | (simp; done)))
set_option maxHeartbeats 8000000 in
set_option maxRecDepth 100000 in
theorem cacheTake_i_no2 (A : Option Addr) (c : Nat) (xss : List (List Int)) (κ : Nat) (q : List Int) (w : World) {B : Nat} (hr : Rd2 iv w B A xss) (hn : Rows xss) (hv : hasL xss κ = true) (hlt : κ < xss.length) (hq : q = xss[κ]) (h0 : q.length = 0) :
    Calls Try.prog 16 #[.agg #[.slice A xss.length c], .int .i64 κ] w (MadeTake xss (-1) false w) := by
  have i0 : (0 : Int) ≤ (κ : Int) := by omega
  have i1 : (κ : Int) < (xss.length : Int) := by omega
  have hr0 := hr.lt
  obtain ⟨b, off, R0, cr, rfl, -, hc, hrq⟩ := hr.lt.row hlt
  have hbl := lt_of_cell' hc
  have hqm := hn.2 _ (List.getElem_mem hlt)
  have HQ := Lib.hid hq
  rw [← hq] at hc hrq hqm
  rw [h0] at hc
  clear hq
  go_enter Try.func16, Try.ntmps16
  go_wp2_with fail
  refine (copyCache_i _ _ _ _ ((hr.alloc _).alloc _) hn).mono ?_
  rintro e u1 ⟨A1, c1, rfl, hcp, hO, hb1⟩
  replace hr := ((hr.alloc _).alloc _).below hb1
  replace hc := keep hb1 (cell_al (cell_al hc _) _)
  have q0 : u1.cell? ⟨w.heap.size, 0, none⟩ = some (.slice (some ⟨b, off, none⟩) xss.length c) := keep hb1 (by simp [go_sem])
  have f0 : Cl u1 ⟨w.heap.size + 1, 0, none⟩ (.slice none 0 0) := Cl.below (by constructor <;> simp [go_sem]) hb1
  have hz1 := hb1.size
  try simp only [World.size_alloc, World.size_drew] at hz1
  have lq0 := lt_of_cell' q0
  have f0c := f0.1
  have f0f := f0.2
  have lf0 := lt_of_cell' f0c
  replace hO := hO.mono (lo' := w.heap.size + 2) (by simp only [World.size_alloc]; omega)
  go_wp2_with fail
  refine (hasList_i _ _ _ _ _ (hr.alloc _) hn true hv).mono ?_
  rintro e u2 ⟨rfl, hb2⟩
  clear lq0
  clear f0c f0f
  clear lf0
  replace hr := (hr.alloc _).below hb2
  replace hc := keep hb2 (cell_al hc _)
  replace q0 := keep hb2 (cell_al q0 _)
  replace f0 := (f0.alloc _).below hb2
  replace hO := (hO.alloc _).below hb2
  have o0 : u2.cell? ⟨u1.heap.size, 0, none⟩ = some (.slice A1 xss.length c1) := keep hb2 (by simp [go_sem])
  have hz2 := hb2.size
  try simp only [World.size_alloc, World.size_drew] at hz2
  have lq0 := lt_of_cell' q0
  have lo0 := lt_of_cell' o0
  have f0c := f0.1
  have f0f := f0.2
  have lf0 := lt_of_cell' f0c
  clear hv h0
  have hW := hO.wr2
  have hN : ∀ b, (w.heap.size + 2 ≤ b ∧ b < u1.heap.size) → w.heap.size + 2 ≤ b ∧ b < u1.heap.size := fun _ h => h
  have HW := Lib.hid hW
  clear hW hO
  go_wp2
  refine bodyPost_ret (v := .tuple #[.agg #[.slice A1 xss.length c1], .int .i64 (-1), .bool false]) (by simp [results, Try.results16, go_sem, f0c]) rfl ⟨A1, c1, fun x => w.heap.size + 2 ≤ x ∧ x < u1.heap.size, rfl, ?_, ?_, ?_⟩
  · exact HW.out.setOut _ (fun h => by have := h.1; omega)
  · intro b hb
    have := hN b hb
    simp only [World.size_setCell]
    omega
  · (repeat' (first | (with_reducible exact Below.refl _ _) | (with_reducible refine bel_alloc ?_ ?_ _) | (with_reducible refine Below.setCell ?_ ?_ _) | (with_reducible refine below_drewN ?_ _) | (with_reducible refine Below.drew ?_) | (with_reducible refine bel_step hb1 ?_ ?_) | (with_reducible refine bel_step hb2 ?_ ?_) | (with_reducible exact Nat.le_refl _) | (with_reducible assumption) | omega | (simp only [World.size_alloc, World.size_setCell, World.size_drew]; omega) | (simp; omega) | (simp; done)))
set_option maxHeartbeats 8000000 in
set_option maxRecDepth 100000 in
theorem cacheTake_s_no2 (A : Option Addr) (c : Nat) (xss : List (List Int)) (κ : Nat) (q : List Int) (w : World) {B : Nat} (hr : Rd2 iv w B A xss) (hn : Rows xss) (hv : hasL xss κ = true) (hlt : κ < xss.length) (hq : q = xss[κ]) (h0 : q.length = 0) :
    Calls Try.prog 35 #[.agg #[.slice A xss.length c], .int .i64 κ] w (MadeTake xss (-1) false w) := by
  have i0 : (0 : Int) ≤ (κ : Int) := by omega
  have i1 : (κ : Int) < (xss.length : Int) := by omega
  have hr0 := hr.lt
  obtain ⟨b, off, R0, cr, rfl, -, hc, hrq⟩ := hr.lt.row hlt
  have hbl := lt_of_cell' hc
  have hqm := hn.2 _ (List.getElem_mem hlt)
  have HQ := Lib.hid hq
  rw [← hq] at hc hrq hqm
  rw [h0] at hc
  clear hq
  go_enter Try.func35, Try.ntmps35
  go_wp2_with fail
  refine (l17Copy_s _ _ _ _ ((hr.alloc _).alloc _) hn).mono ?_
  rintro e u1 ⟨A1, c1, rfl, hcp, hO, hb1⟩
  replace hr := ((hr.alloc _).alloc _).below hb1
  replace hc := keep hb1 (cell_al (cell_al hc _) _)
  have q0 : u1.cell? ⟨w.heap.size, 0, none⟩ = some (.slice (some ⟨b, off, none⟩) xss.length c) := keep hb1 (by simp [go_sem])
  have f0 : Cl u1 ⟨w.heap.size + 1, 0, none⟩ (.slice none 0 0) := Cl.below (by constructor <;> simp [go_sem]) hb1
  have hz1 := hb1.size
  try simp only [World.size_alloc, World.size_drew] at hz1
  have lq0 := lt_of_cell' q0
  have f0c := f0.1
  have f0f := f0.2
  have lf0 := lt_of_cell' f0c
  replace hO := hO.mono (lo' := w.heap.size + 2) (by simp only [World.size_alloc]; omega)
  go_wp2_with fail
  refine (l17Is_s _ _ _ _ _ (hr.alloc _) hn true hv).mono ?_
  rintro e u2 ⟨rfl, hb2⟩
  clear lq0
  clear f0c f0f
  clear lf0
  replace hr := (hr.alloc _).below hb2
  replace hc := keep hb2 (cell_al hc _)
  replace q0 := keep hb2 (cell_al q0 _)
  replace f0 := (f0.alloc _).below hb2
  replace hO := (hO.alloc _).below hb2
  have o0 : u2.cell? ⟨u1.heap.size, 0, none⟩ = some (.slice A1 xss.length c1) := keep hb2 (by simp [go_sem])
  have hz2 := hb2.size
  try simp only [World.size_alloc, World.size_drew] at hz2
  have lq0 := lt_of_cell' q0
  have lo0 := lt_of_cell' o0
  have f0c := f0.1
  have f0f := f0.2
  have lf0 := lt_of_cell' f0c
  clear hv h0
  have hW := hO.wr2
  have hN : ∀ b, (w.heap.size + 2 ≤ b ∧ b < u1.heap.size) → w.heap.size + 2 ≤ b ∧ b < u1.heap.size := fun _ h => h
  have HW := Lib.hid hW
  clear hW hO
  go_wp2
  refine bodyPost_ret (v := .tuple #[.agg #[.slice A1 xss.length c1], .int .i64 (-1), .bool false]) (by simp [results, Try.results35, go_sem, f0c]) rfl ⟨A1, c1, fun x => w.heap.size + 2 ≤ x ∧ x < u1.heap.size, rfl, ?_, ?_, ?_⟩
  · exact HW.out.setOut _ (fun h => by have := h.1; omega)
  · intro b hb
    have := hN b hb
    simp only [World.size_setCell]
    omega
  · (repeat' (first | (with_reducible exact Below.refl _ _) | (with_reducible refine bel_alloc ?_ ?_ _) | (with_reducible refine Below.setCell ?_ ?_ _) | (with_reducible refine below_drewN ?_ _) | (with_reducible refine Below.drew ?_) | (with_reducible refine bel_step hb1 ?_ ?_) | (with_reducible refine bel_step hb2 ?_ ?_) | (with_reducible exact Nat.le_refl _) | (with_reducible assumption) | omega | (simp only [World.size_alloc, World.size_setCell, World.size_drew]; omega) | (simp; omega) | (simp; done)))
end Go.Proofs.Ytmfomflmbhognaa
