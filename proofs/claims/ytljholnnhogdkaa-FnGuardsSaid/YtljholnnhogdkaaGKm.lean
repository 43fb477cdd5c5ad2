/- TableNew, MachineNew, KernelOk, KernelNew of the reference, at two and no refusals. -/
import Derived.Test.YtljholnnhogdkaaGKn
import Derived.Deep.OwnRows
namespace Go.Proofs.Ytljholnnhogdkaa
open Go.ChangeShapes Go.WideShapes Go.ChangeAt Go.RowKit
set_option linter.unusedVariables false
set_option linter.unusedSimpArgs false
attribute [local go_sem ↓] Go.wp_at_zero Go.wp_at_succ

def ez : List En := [(0, 0), (0, 0)]
def uz : List Bool := [false, false]
def MT2 (w : World) (e : Ending) (w' : World) : Prop :=
  ∃ A c S, e = .returned (.tuple #[.agg #[.slice A 2 c], .bool true]) ∧ Wr w' S A (pv ez) ∧ New S w w' ∧ Below w.heap.size w w'
set_option maxHeartbeats 8000000 in
set_option maxRecDepth 100000 in
theorem tableNew_s (w : World) : Calls Try.prog 66 #[.int .i64 2] w (MT2 w) := by
  have hmk : ∀ W : World, (Instr.makeSlice 43 (.int .i64 2) (.int .i64 2)).run Try.prog W = .ok (.slice (some ⟨W.heap.size, 0, none⟩) 2 2) (W.alloc (.cells #[.int .i64 0, .int .i64 0, .int .i64 0, .int .i64 0] 79)) := fun _ => by kernel_rfl
  go_enter Try.func66, Try.ntmps66
  go_wp2_with (go_at_call 30; refine (l01In_q _ _ _ _).mono ?_; rintro e w2 ⟨rfl, rfl⟩; rw [show btw 2 1 32 = true from rfl])
  refine bodyPost_ret (v := .tuple #[.agg #[.slice (some ⟨w.heap.size + 1, 0, none⟩) 2 2], .bool true]) (by simp [results, Try.results66, go_sem]) rfl ⟨_, _, fun x => x = w.heap.size + 1, rfl, ?_, fun b hb => by have h : b = _ := hb; simp; omega, ?_⟩
  · exact .inr ⟨w.heap.size + 1, 0, rfl, rfl, fun k v hk => by rw [Nat.zero_add]; exact Cl.new (by simp) (by rw [← Array.getElem?_toList]; exact hk)⟩
  · (repeat' (first | (with_reducible exact Below.refl _ _) | (with_reducible refine bel_alloc ?_ ?_ _) | (with_reducible refine Below.setCell ?_ ?_ _) | (with_reducible refine below_drewN ?_ _) | (with_reducible refine Below.drew ?_) | (with_reducible exact Nat.le_refl _) | (with_reducible assumption) | omega | (simp only [World.size_alloc, World.size_setCell, World.size_drew]; omega) | (simp; omega) | (simp; done)))
def MM2 (w : World) (e : Ending) (w' : World) : Prop :=
  ∃ A c B d AE f S T U, e = .returned (.tuple #[.agg #[.slice A 2 c, .slice B 2 d, .slice AE 2 f], .bool true]) ∧ Wr2 iv w' S A (m2 z16) ∧ Wr w' T B (bl uz) ∧ Wr w' U AE (pv ez) ∧ New S w w' ∧ New T w w' ∧ New U w w' ∧ Below w.heap.size w w'
set_option maxHeartbeats 8000000 in
set_option maxRecDepth 100000 in
theorem machineNew_s (w : World) : Calls Try.prog 42 #[.int .i64 2, .int .i64 2] w (MM2 w) := by
  go_enter Try.func42, Try.ntmps42
  go_wp2_with fail
  refine (framesNew_s _).mono ?_
  rintro e w1 ⟨A, c, B, d, S, T, rfl, hA, hB, hS, hT, hb1⟩
  have r0 : Cl w1 ⟨w.heap.size, 0, none⟩ (.slice none 0 0) := Cl.below (by constructor <;> simp [go_sem]) hb1
  have r1 : Cl w1 ⟨w.heap.size, 1, none⟩ (.slice none 0 0) := Cl.below (by constructor <;> simp [go_sem]) hb1
  have r2 : Cl w1 ⟨w.heap.size, 2, none⟩ (.slice none 0 0) := Cl.below (by constructor <;> simp [go_sem]) hb1
  have hz1 := hb1.size
  simp only [World.size_alloc] at hz1
  go_wp2_with fail
  refine (tableNew_s _).mono ?_
  rintro e w2 ⟨AE, f, U, rfl, hE, hU, hb2⟩
  have k0 : w2.cell? ⟨w1.heap.size, 0, none⟩ = some (.slice A 2 c) := keep hb2 (by simp [go_sem])
  have k1 : w2.cell? ⟨w1.heap.size, 1, none⟩ = some (.slice B 2 d) := keep hb2 (by simp [go_sem])
  replace r0 := (r0.alloc _).below hb2
  replace r1 := (r1.alloc _).below hb2
  replace r2 := (r2.alloc _).below hb2
  replace hA := (hA.alloc _).below hb2
  replace hB := (hB.alloc _).below hb2
  have hz2 := hb2.size
  simp only [World.size_alloc] at hz2
  have hbw : Below w.heap.size w (w2.alloc (.cells #[.slice AE 2 f] 45)) := by (repeat' (first | (with_reducible exact Below.refl _ _) | (with_reducible refine bel_alloc ?_ ?_ _) | (with_reducible refine Below.setCell ?_ ?_ _) | (with_reducible refine below_drewN ?_ _) | (with_reducible refine Below.drew ?_) | (with_reducible refine bel_step hb1 ?_ ?_) | (with_reducible refine bel_step hb2 ?_ ?_) | (with_reducible exact Nat.le_refl _) | (with_reducible assumption) | omega | (simp only [World.size_alloc, World.size_setCell, World.size_drew]; omega) | (simp; omega) | (simp; done)))
  have lk0 := lt_of_cell' k0
  have h0 := ((((r0.same (.slice A 2 c)).other (q := ⟨w.heap.size, 1, none⟩) (.slice B 2 d) (by simp)).other (q := ⟨w.heap.size, 2, none⟩) (.slice AE 2 f) (by simp)).alloc (.cells #[.slice AE 2 f] 45)).1
  have h1 := ((((r1.other (q := ⟨w.heap.size, 0, none⟩) (.slice A 2 c) (by simp)).same (.slice B 2 d)).other (q := ⟨w.heap.size, 2, none⟩) (.slice AE 2 f) (by simp)).alloc (.cells #[.slice AE 2 f] 45)).1
  have h2 := ((((r2.other (q := ⟨w.heap.size, 0, none⟩) (.slice A 2 c) (by simp)).other (q := ⟨w.heap.size, 1, none⟩) (.slice B 2 d) (by simp)).same (.slice AE 2 f)).alloc (.cells #[.slice AE 2 f] 45)).1
  have H0 := Lib.hid h0
  have H1 := Lib.hid h1
  have H2 := Lib.hid h2
  clear h0 h1 h2
  obtain ⟨r0c, r0f⟩ := r0
  obtain ⟨r1c, r1f⟩ := r1
  obtain ⟨r2c, r2f⟩ := r2
  have lr0 := lt_of_cell' r0c
  go_wp2_with fail
  refine bodyPost_ret (v := .tuple #[.agg #[.slice A 2 c, .slice B 2 d, .slice AE 2 f], .bool true]) (by simp [results, Try.results42, go_sem, H0.out, H1.out, H2.out, lr0]) rfl ⟨A, c, B, d, AE, f, S, T, U, rfl, ?_, ?_, ?_, ?_, ?_, ?_, ?_⟩
  · exact ((((hA.setOut (b := w.heap.size) (o := 0) _ (fun h => by have := hS _ h; simp at this; omega)).setOut (b := w.heap.size) (o := 1) _ (fun h => by have := hS _ h; simp at this; omega)).setOut (b := w.heap.size) (o := 2) _ (fun h => by have := hS _ h; simp at this; omega)).alloc _)
  · exact ((((hB.setOut (b := w.heap.size) (o := 0) _ (fun h => by have := hT _ h; simp at this; omega)).setOut (b := w.heap.size) (o := 1) _ (fun h => by have := hT _ h; simp at this; omega)).setOut (b := w.heap.size) (o := 2) _ (fun h => by have := hT _ h; simp at this; omega)).alloc _)
  · exact ((((hE.setOut (b := w.heap.size) (o := 0) _ (fun h => by have := hU _ h; simp at this; omega)).setOut (b := w.heap.size) (o := 1) _ (fun h => by have := hU _ h; simp at this; omega)).setOut (b := w.heap.size) (o := 2) _ (fun h => by have := hU _ h; simp at this; omega)).alloc _)
  · exact fun b hb => by have := hS b hb; simp at this ⊢; omega
  · exact fun b hb => by have := hT b hb; simp at this ⊢; omega
  · exact fun b hb => by have := hU b hb; simp at this ⊢; omega
  · exact ((((by (repeat' (first | (with_reducible exact Below.refl _ _) | (with_reducible refine bel_alloc ?_ ?_ _) | (with_reducible refine Below.setCell ?_ ?_ _) | (with_reducible refine below_drewN ?_ _) | (with_reducible refine Below.drew ?_) | (with_reducible refine bel_step hb1 ?_ ?_) | (with_reducible refine bel_step hb2 ?_ ?_) | (with_reducible exact Nat.le_refl _) | (with_reducible assumption) | omega | (simp only [World.size_alloc, World.size_setCell, World.size_drew]; omega) | (simp; omega) | (simp; done))) : Below w.heap.size w w2).setCell (p := ⟨w.heap.size, 0, none⟩) (Nat.le_refl _) _).setCell (p := ⟨w.heap.size, 1, none⟩) (Nat.le_refl _) _).setCell (p := ⟨w.heap.size, 2, none⟩) (Nat.le_refl _) _).alloc (by simp; omega) _
end Go.Proofs.Ytljholnnhogdkaa
