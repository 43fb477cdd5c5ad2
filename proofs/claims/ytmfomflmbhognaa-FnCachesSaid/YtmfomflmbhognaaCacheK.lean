/- CachePut: where the class is none. -/
import Derived.Test.YtmfomflmbhognaaCacheJ
import Derived.Test.YtmfomflmbhognaaIntN
import Derived.Deep.RegionHeld3
import Derived.Deep.DrawnRows
namespace Go.Proofs.Ytmfomflmbhognaa
open Go.ChangeShapes Go.WideShapes Go.ChangeAt Go.RowKit
set_option linter.unusedVariables false
attribute [local go_sem ↓] Go.wp_at_zero Go.wp_at_succ

theorem hasL_row {xss : List (List Int)} {κ : Nat} (h : hasL xss κ = true) : (xss[κ]'(hasL_lt h)).length ≤ 8 := by
  have hk := hasL_lt h
  simp only [hasL, Bool.and_eq_true] at h
  rcases Nat.lt_or_ge 8 (xss[κ]'hk).length with h8 | h8
  · rw [cOk_long hk h8] at h
    simp at h
  · exact h8
def MadePut (ys : List (List Int)) (ok : Bool) (w : World) (e : Ending) (w' : World) : Prop :=
  ∃ A c S, e = .returned (.tuple #[.agg #[.slice A ys.length c], .bool ok]) ∧ Wr2 iv w' S A ys ∧ New S w w' ∧ Below w.heap.size w w'
set_option maxHeartbeats 8000000 in
set_option maxRecDepth 100000 in
theorem cachePut_i_no1 (A : Option Addr) (c : Nat) (xss : List (List Int)) (k a : Int) (w : World) {B : Nat} (hr : Rd2 iv w B A xss) (hn : Rows xss) (hv : hasL xss k = false) :
    Calls Try.prog 15 #[.agg #[.slice A xss.length c], .int .i64 k, .int .i64 a] w (MadePut xss false w) := by
  go_enter Try.func15, Try.ntmps15
  go_wp2_with fail
  refine (hasList_i _ _ _ _ _ ((hr.alloc _).alloc _) hn false hv).mono ?_
  rintro e u1 ⟨rfl, hb1⟩
  replace hr := ((hr.alloc _).alloc _).below hb1
  have q0 : u1.cell? ⟨w.heap.size, 0, none⟩ = some (.slice A xss.length c) := keep hb1 (by simp [go_sem])
  have f0 : Cl u1 ⟨w.heap.size + 1, 0, none⟩ (.slice none 0 0) := Cl.below (by constructor <;> simp [go_sem]) hb1
  have hz1 := hb1.size
  try simp only [World.size_alloc, World.size_drew] at hz1
  have lq0 := lt_of_cell' q0
  have f0c := f0.1
  have f0f := f0.2
  have lf0 := lt_of_cell' f0c
  clear hv
  go_wp2_with fail
  refine (copyCache_i _ _ _ _ hr hn).mono ?_
  rintro e u2 ⟨A1, c1, rfl, hcp, hO, hb2⟩
  clear lq0
  clear f0c f0f
  clear lf0
  replace hr := hr.below hb2
  replace q0 := keep hb2 q0
  replace f0 := f0.below hb2
  have hz2 := hb2.size
  try simp only [World.size_alloc, World.size_drew] at hz2
  have lq0 := lt_of_cell' q0
  have f0c := f0.1
  have f0f := f0.2
  have lf0 := lt_of_cell' f0c
  replace hO := hO.mono (lo' := w.heap.size + 2) (by first | omega | (simp only [World.size_alloc]; omega))
  have hW := hO.wr2
  have HW := Lib.hid hW
  clear hW hO
  go_wp2
  refine bodyPost_ret (v := .tuple #[.agg #[.slice A1 xss.length c1], .bool false]) (by simp [results, Try.results15, go_sem, f0c]) rfl ⟨A1, c1, fun x => w.heap.size + 2 ≤ x ∧ x < u2.heap.size, rfl, ?_, ?_, ?_⟩
  · exact HW.out.setOut _ (fun h => by have := h.1; omega)
  · intro b hb
    have h1 := hb.1
    have h2 := hb.2
    simp only [World.size_setCell]
    omega
  · (repeat' (first | (with_reducible exact Below.refl _ _) | (with_reducible refine bel_alloc ?_ ?_ _) | (with_reducible refine Below.setCell ?_ ?_ _) | (with_reducible refine below_drewN ?_ _) | (with_reducible refine Below.drew ?_) | (with_reducible refine bel_step hb1 ?_ ?_) | (with_reducible refine bel_step hb2 ?_ ?_) | (with_reducible exact Nat.le_refl _) | (with_reducible assumption) | omega | (simp only [World.size_alloc, World.size_setCell, World.size_drew]; omega) | (simp; omega) | (simp; done)))
set_option maxHeartbeats 8000000 in
set_option maxRecDepth 100000 in
theorem cachePut_s_no1 (A : Option Addr) (c : Nat) (xss : List (List Int)) (k a : Int) (w : World) {B : Nat} (hr : Rd2 iv w B A xss) (hn : Rows xss) (hv : hasL xss k = false) :
    Calls Try.prog 36 #[.agg #[.slice A xss.length c], .int .i64 k, .int .i64 a] w (MadePut xss false w) := by
  go_enter Try.func36, Try.ntmps36
  go_wp2_with fail
  refine (l17Copy_s _ _ _ _ ((hr.alloc _).alloc _) hn).mono ?_
  rintro e u1 ⟨A1, c1, rfl, hcp, hO, hb1⟩
  replace hr := ((hr.alloc _).alloc _).below hb1
  have q0 : u1.cell? ⟨w.heap.size, 0, none⟩ = some (.slice A xss.length c) := keep hb1 (by simp [go_sem])
  have f0 : Cl u1 ⟨w.heap.size + 1, 0, none⟩ (.slice none 0 0) := Cl.below (by constructor <;> simp [go_sem]) hb1
  have hz1 := hb1.size
  try simp only [World.size_alloc, World.size_drew] at hz1
  have lq0 := lt_of_cell' q0
  have f0c := f0.1
  have f0f := f0.2
  have lf0 := lt_of_cell' f0c
  replace hO := hO.mono (lo' := w.heap.size + 2) (by first | omega | (simp only [World.size_alloc]; omega))
  go_wp2_with fail
  refine (l17Is_s _ _ _ _ _ (hr.alloc _) hn false hv).mono ?_
  rintro e u2 ⟨rfl, hb2⟩
  clear lq0
  clear f0c f0f
  clear lf0
  replace hr := (hr.alloc _).below hb2
  replace q0 := keep hb2 (cell_al q0 _)
  replace f0 := (f0.alloc _).below hb2
  replace hO := (hO.alloc _).below hb2
  have o0 : u2.cell? ⟨u1.heap.size, 0, none⟩ = some (.slice A1 xss.length c1) := keep hb2 (by simp [go_sem])
  have hz2 := hb2.size
  try simp only [World.size_alloc, World.size_drew] at hz2
  have lq0 := lt_of_cell' q0
  have lo0 := lt_of_cell' o0
  have f0c := f0.1
  have f0f := f0.2
  have lf0 := lt_of_cell' f0c
  clear hv
  have hW := hO.wr2
  have HW := Lib.hid hW
  clear hW hO
  go_wp2
  refine bodyPost_ret (v := .tuple #[.agg #[.slice A1 xss.length c1], .bool false]) (by simp [results, Try.results36, go_sem, f0c]) rfl ⟨A1, c1, fun x => w.heap.size + 2 ≤ x ∧ x < u1.heap.size, rfl, ?_, ?_, ?_⟩
  · exact HW.out.setOut _ (fun h => by have := h.1; omega)
  · intro b hb
    have h1 := hb.1
    have h2 := hb.2
    simp only [World.size_setCell]
    omega
  · (repeat' (first | (with_reducible exact Below.refl _ _) | (with_reducible refine bel_alloc ?_ ?_ _) | (with_reducible refine Below.setCell ?_ ?_ _) | (with_reducible refine below_drewN ?_ _) | (with_reducible refine Below.drew ?_) | (with_reducible refine bel_step hb1 ?_ ?_) | (with_reducible refine bel_step hb2 ?_ ?_) | (with_reducible exact Nat.le_refl _) | (with_reducible assumption) | omega | (simp only [World.size_alloc, World.size_setCell, World.size_drew]; omega) | (simp; omega) | (simp; done)))
end Go.Proofs.Ytmfomflmbhognaa
