/- QuarAdd, QuarExpire, of the program: where nothing is done. -/
import Derived.Test.YteafpfmndjeanaaQuarG
namespace Go.Proofs.Yteafpfmndjeanaa
open Go.ChangeShapes Go.WideShapes Go.ChangeAt Go.RowKit
set_option linter.unusedVariables false

def MadeAdd (r : Int) (ys zs : List St) (w : World) (e : Ending) (w' : World) : Prop :=
  ∃ A c A' c' S S', e = .returned (.tuple #[.agg #[.int .i64 r, .slice A ys.length c], .slice A' zs.length c']) ∧ Wr w' S A (tv ys) ∧ Wr w' S' A' (tv zs) ∧ New S w w' ∧ New S' w w' ∧ (∀ b, S b → ¬ S' b) ∧ Below w.heap.size w w'
def MadeAddC (r : Int) (ys zs : List St) (w : World) (e : Ending) (w' : World) : Prop :=
  ∃ A c A' c' S S', e = .returned (.tuple #[.agg #[.int .i64 r, .slice A ys.length c], .slice A' zs.length c']) ∧ Wr w' S A (tv ys) ∧ Wr w' S' A' (tv zs) ∧ New S w w' ∧ New S' w w' ∧ (∀ b, S b → ¬ S' b) ∧ Below w.heap.size w w' ∧ (ys.length ≤ c ∧ c ≤ maxLen)
set_option maxHeartbeats 4000000 in
theorem quarAdd_i_no (r : Int) (A : Option Addr) (n c : Nat) (xs : List St) (x y z : Int) (w : World) {B : Nat} (hr : Rd w B A (tv xs)) (hl : xs.length = n) (hn : n ≤ 1048576) (hcap : n ≤ c ∧ c ≤ maxLen) (hno : qOkB r xs = false ∨ stOk xs (x, y, z) = false) :
    Calls Try.prog 26 #[.agg #[.int .i64 r, .slice A n c], .agg #[.int .i64 x, .int .i64 y, .int .i64 z]] w (MadeAdd r xs [] w) := by
  subst hl
  obtain ⟨v, hv⟩ : ∃ v, qOkB r xs = v := ⟨_, rfl⟩
  have HNO : v = true → Hid (stOk xs (x, y, z) = false) := fun h => Lib.hid (by rcases hno with h1 | h1; rw [hv, h] at h1; cases h1; exact h1)
  clear hno
  go_enter Try.func26, Try.ntmps26
  go_wp2_with fail
  refine (copyQuar_any _ _ _ _ _ _ (((hr.alloc _).alloc _).alloc _) rfl (by omega)).mono ?_
  rintro e u1 ⟨A', c', rfl, hO, hb1⟩
  replace hr := (((hr.alloc _).alloc _).alloc _).below hb1
  have q0 : u1.cell? ⟨w.heap.size, 0, none⟩ = some (.int .i64 r) := keep hb1 (by simp [go_sem])
  have q1 : u1.cell? ⟨w.heap.size, 1, none⟩ = some (.slice A xs.length c) := keep hb1 (by simp [go_sem])
  have x0 : u1.cell? ⟨w.heap.size + 1, 0, none⟩ = some (.int .i64 x) := keep hb1 (by simp [go_sem])
  have x1 : u1.cell? ⟨w.heap.size + 1, 1, none⟩ = some (.int .i64 y) := keep hb1 (by simp [go_sem])
  have x2 : u1.cell? ⟨w.heap.size + 1, 2, none⟩ = some (.int .i64 z) := keep hb1 (by simp [go_sem])
  have f0 : Cl u1 ⟨w.heap.size + 1 + 1, 0, none⟩ (.int .i64 0) := Cl.below (by constructor <;> simp [go_sem]) hb1
  have f1 : Cl u1 ⟨w.heap.size + 1 + 1, 1, none⟩ (.slice none 0 0) := Cl.below (by constructor <;> simp [go_sem]) hb1
  have hz1 := hb1.size
  try simp only [World.size_alloc, World.size_drew] at hz1
  have lq0 := lt_of_cell' q0
  have lx0 := lt_of_cell' x0
  have f0c := f0.1
  have f0f := f0.2
  have f1c := f1.1
  have f1f := f1.2
  obtain ⟨S, hW, hN⟩ := hO.wr.new (w.heap.size + 3) (fun b h => by have := h.1; simp only [World.size_alloc] at this; omega)
  go_wp2_with fail
  refine (quarOk_i _ _ _ _ _ _ v (hr.alloc _) rfl hn hcap hv).mono ?_
  rintro e u2 ⟨rfl, hb2⟩
  clear lq0 lx0
  clear f0c f0f f1c f1f
  replace hr := (hr.alloc _).below hb2
  replace q0 := keep hb2 (cell_al q0 _)
  replace q1 := keep hb2 (cell_al q1 _)
  replace x0 := keep hb2 (cell_al x0 _)
  replace x1 := keep hb2 (cell_al x1 _)
  replace x2 := keep hb2 (cell_al x2 _)
  replace f0 := (f0.alloc _).below hb2
  replace f1 := (f1.alloc _).below hb2
  replace hW := (hW.alloc _).below hb2
  have o0 : u2.cell? ⟨u1.heap.size, 0, none⟩ = some (.int .i64 r) := keep hb2 (by simp [go_sem])
  have o1 : u2.cell? ⟨u1.heap.size, 1, none⟩ = some (.slice A' xs.length c') := keep hb2 (by simp [go_sem])
  have hz2 := hb2.size
  try simp only [World.size_alloc, World.size_drew] at hz2
  have lq0 := lt_of_cell' q0
  have lx0 := lt_of_cell' x0
  have lo0 := lt_of_cell' o0
  have f0c := f0.1
  have f0f := f0.2
  have f1c := f1.1
  have f1f := f1.2
  cases v
  · go_wp2
    refine bodyPost_ret (v := .tuple #[.agg #[.int .i64 r, .slice A' xs.length c'], .slice none 0 0]) (by simp [results, Try.results26, go_sem, f0c, f1c]) rfl ⟨A', c', none, 0, S, fun _ => False, rfl, by (repeat' (first | (with_reducible exact hW) | (with_reducible refine Wr.setOut ?_ _ (fun h => by have := hN _ h; first | omega | (simp at this; omega))) | (with_reducible refine Wr.alloc ?_ _) | (with_reducible refine Wr.drewN ?_ _) | (with_reducible refine Wr.drew ?_))), .inl rfl, New.mk hN (by omega) (by simp; omega), fun _ h => h.elim, fun _ _ h => h, by (repeat' (first | (with_reducible exact Below.refl _ _) | (with_reducible refine bel_alloc ?_ ?_ _) | (with_reducible refine Below.setCell ?_ ?_ _) | (with_reducible refine below_drewN ?_ _) | (with_reducible refine Below.drew ?_) | (with_reducible refine bel_step hb1 ?_ ?_) | (with_reducible refine bel_step hb2 ?_ ?_) | (with_reducible exact Nat.le_refl _) | (with_reducible assumption) | omega | (simp only [World.size_alloc, World.size_setCell, World.size_drew]; omega) | (simp; omega) | (simp; done)))⟩
  have hst := (HNO rfl).out
  clear HNO
  go_wp2_with fail
  refine (staleOk_i _ _ _ _ _ _ _ _ false hr rfl hn hst).mono ?_
  rintro e u3 ⟨rfl, hb3⟩
  clear lq0 lx0 lo0
  clear f0c f0f f1c f1f
  replace hr := hr.below hb3
  replace q0 := keep hb3 q0
  replace q1 := keep hb3 q1
  replace x0 := keep hb3 x0
  replace x1 := keep hb3 x1
  replace x2 := keep hb3 x2
  replace f0 := f0.below hb3
  replace f1 := f1.below hb3
  replace hW := hW.below hb3
  replace o0 := keep hb3 o0
  replace o1 := keep hb3 o1
  have hz3 := hb3.size
  try simp only [World.size_alloc, World.size_drew] at hz3
  have lq0 := lt_of_cell' q0
  have lx0 := lt_of_cell' x0
  have lo0 := lt_of_cell' o0
  have f0c := f0.1
  have f0f := f0.2
  have f1c := f1.1
  have f1f := f1.2
  go_wp2
  refine bodyPost_ret (v := .tuple #[.agg #[.int .i64 r, .slice A' xs.length c'], .slice none 0 0]) (by simp [results, Try.results26, go_sem, f0c, f1c]) rfl ⟨A', c', none, 0, S, fun _ => False, rfl, by (repeat' (first | (with_reducible exact hW) | (with_reducible refine Wr.setOut ?_ _ (fun h => by have := hN _ h; first | omega | (simp at this; omega))) | (with_reducible refine Wr.alloc ?_ _) | (with_reducible refine Wr.drewN ?_ _) | (with_reducible refine Wr.drew ?_))), .inl rfl, New.mk hN (by omega) (by simp; omega), fun _ h => h.elim, fun _ _ h => h, by (repeat' (first | (with_reducible exact Below.refl _ _) | (with_reducible refine bel_alloc ?_ ?_ _) | (with_reducible refine Below.setCell ?_ ?_ _) | (with_reducible refine below_drewN ?_ _) | (with_reducible refine Below.drew ?_) | (with_reducible refine bel_step hb1 ?_ ?_) | (with_reducible refine bel_step hb2 ?_ ?_) | (with_reducible refine bel_step hb3 ?_ ?_) | (with_reducible exact Nat.le_refl _) | (with_reducible assumption) | omega | (simp only [World.size_alloc, World.size_setCell, World.size_drew]; omega) | (simp; omega) | (simp; done)))⟩
end Go.Proofs.Yteafpfmndjeanaa
