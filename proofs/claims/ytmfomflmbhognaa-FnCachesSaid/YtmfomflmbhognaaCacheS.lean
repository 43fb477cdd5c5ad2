/- CacheSpill, of the program and of the reference: where nothing is spilled. -/
import Derived.Test.YtmfomflmbhognaaCacheJ
import Derived.Test.YtmfomflmbhognaaIntN
import Derived.Deep.RegionHeld3
import Derived.Deep.DrawnRows
namespace Go.Proofs.Ytmfomflmbhognaa
open Go.ChangeShapes Go.WideShapes Go.ChangeAt Go.RowKit
set_option linter.unusedVariables false
set_option linter.unusedSimpArgs false
attribute [local go_sem ↓] Go.wp_at_zero Go.wp_at_succ

def MadeSpill (ys : List (List Int)) (l : List Int) (w : World) (e : Ending) (w' : World) : Prop :=
  ∃ A c A' c' S U, e = .returned (.tuple #[.agg #[.slice A ys.length c], .slice A' l.length c']) ∧ Wr2 iv w' S A ys ∧ Wr w' U A' (iv l) ∧ New S w w' ∧ New U w w' ∧ (∀ b, S b → ¬ U b) ∧ Below w.heap.size w w'
theorem madeSpill_nil {w w' : World} {ys : List (List Int)} {A A' : Option Addr} {c c' n' : Nat} {S : Nat → Prop} (h : Wr2 iv w' S A ys) (hS : New S w w') (hb : Below w.heap.size w w') (hn : n' = 0) : MadeSpill ys [] w (.returned (.tuple #[.agg #[.slice A ys.length c], .slice A' n' c'])) w' := by
  subst hn
  exact ⟨A, c, A', c', S, fun _ => False, rfl, h, .inl rfl, hS, fun _ h => h.elim, fun _ _ h => h, hb⟩
set_option maxHeartbeats 8000000 in
set_option maxRecDepth 100000 in
theorem cacheSpill_i_no (A : Option Addr) (c : Nat) (xss : List (List Int)) (k n : Int) (w : World) {B : Nat} (hr : Rd2 iv w B A xss) (hn : Rows xss) (v : Bool) (hv : hasL xss k = v) (hno : v = false ∨ n < 1) :
    Calls Try.prog 27 #[.agg #[.slice A xss.length c], .int .i64 k, .int .i64 n] w (MadeSpill xss [] w) := by
  rcases (by cases v <;> simp_all : v = false ∨ (v = true ∧ decide (n < 1) = true)) with rfl | ⟨rfl, hd⟩
  all_goals
    clear hno
    go_enter Try.func27, Try.ntmps27
    go_wp2_with fail
    refine (copyCache_i _ _ _ _ ((hr.alloc _).alloc _) hn).mono ?_
    rintro e u1 ⟨A1, c1, rfl, hcp, hO, hb1⟩
    replace hr := ((hr.alloc _).alloc _).below hb1
    have q0 : u1.cell? ⟨w.heap.size, 0, none⟩ = some (.slice A xss.length c) := keep hb1 (by simp [go_sem])
    have f0 : Cl u1 ⟨w.heap.size + 1, 0, none⟩ (.slice none 0 0) := Cl.below (by constructor <;> simp [go_sem]) hb1
    have hz1 := hb1.size
    try simp only [World.size_alloc, World.size_drew] at hz1
    have lq0 := lt_of_cell' q0
    have f0c := f0.1
    have f0f := f0.2
    have lf0 := lt_of_cell' f0c
    replace hO := hO.mono (lo' := w.heap.size + 2) (by simp only [World.size_alloc]; omega)
    go_wp2_with fail
    refine (hasList_i _ _ _ _ _ (hr.alloc _) hn _ hv).mono ?_
    rintro e u2 ⟨rfl, hb2⟩
    clear lq0 f0c f0f lf0 hv
    replace q0 := keep hb2 (cell_al q0 _)
    replace f0 := (f0.alloc _).below hb2
    replace hO := (hO.alloc _).below hb2
    have o0 : u2.cell? ⟨u1.heap.size, 0, none⟩ = some (.slice A1 xss.length c1) := keep hb2 (by simp [go_sem])
    have hz2 := hb2.size
    try simp only [World.size_alloc, World.size_drew] at hz2
    have lq0 := lt_of_cell' q0
    have lo0 := lt_of_cell' o0
    have f0c := f0.1
    have f0f := f0.2
    have lf0 := lt_of_cell' f0c
    have hW := hO.wr2
    have HW := Lib.hid hW
    clear hW hO
    go_wp2
    refine bodyPost_ret (v := .tuple #[.agg #[.slice A1 xss.length c1], .slice none 0 0]) (by simp [results, Try.results27, go_sem, f0c]) rfl (madeSpill_nil (S := fun x => w.heap.size + 2 ≤ x ∧ x < u1.heap.size) ?_ ?_ ?_ rfl)
    · exact HW.out.setOut _ (fun h => by have := h.1; omega)
    · intro b hb
      have h1 := hb.1
      have h2 := hb.2
      simp only [World.size_setCell, World.size_alloc, World.size_drew]
      omega
    · (repeat' (first | (with_reducible exact Below.refl _ _) | (with_reducible refine bel_alloc ?_ ?_ _) | (with_reducible refine Below.setCell ?_ ?_ _) | (with_reducible refine below_drewN ?_ _) | (with_reducible refine Below.drew ?_) | (with_reducible refine bel_step hb1 ?_ ?_) | (with_reducible refine bel_step hb2 ?_ ?_) | (with_reducible exact Nat.le_refl _) | (with_reducible assumption) | omega | (simp only [World.size_alloc, World.size_setCell, World.size_drew]; omega) | (simp; omega) | (simp; done)))
set_option maxHeartbeats 8000000 in
set_option maxRecDepth 100000 in
theorem cacheSpill_s_no (A : Option Addr) (c : Nat) (xss : List (List Int)) (k n : Int) (w : World) {B : Nat} (hr : Rd2 iv w B A xss) (hn : Rows xss) (v : Bool) (hv : hasL xss k = v) (hno : v = false ∨ n < 1) :
    Calls Try.prog 29 #[.agg #[.slice A xss.length c], .int .i64 k, .int .i64 n] w (MadeSpill xss [] w) := by
  rcases (by cases v <;> simp_all : v = false ∨ (v = true ∧ decide (n < 1) = true)) with rfl | ⟨rfl, hd⟩
  all_goals
    clear hno
    go_enter Try.func29, Try.ntmps29
    go_wp2_with fail
    refine (l17Copy_s _ _ _ _ ((hr.alloc _).alloc _) hn).mono ?_
    rintro e u1 ⟨A1, c1, rfl, hcp, hO, hb1⟩
    replace hr := ((hr.alloc _).alloc _).below hb1
    have q0 : u1.cell? ⟨w.heap.size, 0, none⟩ = some (.slice A xss.length c) := keep hb1 (by simp [go_sem])
    have f0 : Cl u1 ⟨w.heap.size + 1, 0, none⟩ (.slice none 0 0) := Cl.below (by constructor <;> simp [go_sem]) hb1
    have hz1 := hb1.size
    try simp only [World.size_alloc, World.size_drew] at hz1
    have lq0 := lt_of_cell' q0
    have f0c := f0.1
    have f0f := f0.2
    have lf0 := lt_of_cell' f0c
    replace hO := hO.mono (lo' := w.heap.size + 2) (by simp only [World.size_alloc]; omega)
    go_wp2_with fail
    refine (l17Is_s _ _ _ _ _ (hr.alloc _) hn _ hv).mono ?_
    rintro e u2 ⟨rfl, hb2⟩
    clear lq0 f0c f0f lf0 hv
    replace q0 := keep hb2 (cell_al q0 _)
    replace f0 := (f0.alloc _).below hb2
    replace hO := (hO.alloc _).below hb2
    have o0 : u2.cell? ⟨u1.heap.size, 0, none⟩ = some (.slice A1 xss.length c1) := keep hb2 (by simp [go_sem])
    have hz2 := hb2.size
    try simp only [World.size_alloc, World.size_drew] at hz2
    have lq0 := lt_of_cell' q0
    have lo0 := lt_of_cell' o0
    have f0c := f0.1
    have f0f := f0.2
    have lf0 := lt_of_cell' f0c
    have hW := hO.wr2
    have HW := Lib.hid hW
    clear hW hO
    have f3 : World.cell? ((u2.setCell ⟨w.heap.size + 1, 0, none⟩ (.slice A1 xss.length c1)).alloc (.cells #[] 3)) ⟨w.heap.size + 1, 0, none⟩ = some (.slice A1 xss.length c1) := cell_al (by simp [go_sem, f0c]) _
    go_wp2
    refine bodyPost_ret (v := .tuple #[.agg #[.slice A1 xss.length c1], .slice (some ⟨u2.heap.size, 0, none⟩) 0 0]) (by simp [results, Try.results29, go_sem, f0c, f3]) rfl (madeSpill_nil (S := fun x => w.heap.size + 2 ≤ x ∧ x < u1.heap.size) ?_ ?_ ?_ rfl)
    · exact (HW.out.setOut _ (fun h => by have := h.1; omega)).alloc _
    · intro b hb
      have h1 := hb.1
      have h2 := hb.2
      simp only [World.size_setCell, World.size_alloc, World.size_drew]
      omega
    · (repeat' (first | (with_reducible exact Below.refl _ _) | (with_reducible refine bel_alloc ?_ ?_ _) | (with_reducible refine Below.setCell ?_ ?_ _) | (with_reducible refine below_drewN ?_ _) | (with_reducible refine Below.drew ?_) | (with_reducible refine bel_step hb1 ?_ ?_) | (with_reducible refine bel_step hb2 ?_ ?_) | (with_reducible exact Nat.le_refl _) | (with_reducible assumption) | omega | (simp only [World.size_alloc, World.size_setCell, World.size_drew]; omega) | (simp; omega) | (simp; done)))
end Go.Proofs.Ytmfomflmbhognaa
