/- KMapNew of the reference, at two and page 0. -/
import Derived.Test.YtljholnnhogdkaaGKw
import Derived.Test.YtljholnnhogdkaaGKy
namespace Go.Proofs.Ytljholnnhogdkaa
open Go.ChangeShapes Go.WideShapes Go.ChangeAt Go.RowKit
set_option linter.unusedVariables false
set_option linter.unusedSimpArgs false
attribute [local go_sem ↓] Go.wp_at_zero Go.wp_at_succ

set_option maxHeartbeats 8000000 in
set_option maxRecDepth 100000 in
theorem kMapNew_z (A : Option Addr) (c : Nat) (B : Option Addr) (d : Nat) (AE : Option Addr) (f : Nat) (AR : Option Addr) (r : Nat) (w : World) {B1 B2 B3 : Nat} (hr : Rd2 iv w B1 A (m2 z16)) (hs : Rd w B2 B (bl uz)) (ht : Rd w B3 AE (pv ez)) :
    Calls Try.prog 24 #[.agg #[.slice A 2 c, .slice B 2 d, .slice AE 2 f, .int .i64 0, .slice AR 0 r], .int .i64 0] w (MKN us0 es0 1 true w) := by
  go_enter Try.func24, Try.ntmps24
  go_wp2_with fail
  refine (l08Copy_z _ _ _ _ _ _ _ _ _ ((hr.lt.alloc _).alloc _) ((hs.lt.alloc _).alloc _) ((ht.lt.alloc _).alloc _)).mono ?_
  rintro e u1 ⟨A1, c1, B1, d1, E1, f1, R1, r1, S, T, U, rfl, hA, hB, hE, hS, hT, hU, hST, hSU, hTU, hb1⟩
  have q0 : u1.cell? ⟨w.heap.size, 0, none⟩ = some (.slice A 2 c) := keep hb1 (by simp [go_sem])
  have q1 : u1.cell? ⟨w.heap.size, 1, none⟩ = some (.slice B 2 d) := keep hb1 (by simp [go_sem])
  have q2 : u1.cell? ⟨w.heap.size, 2, none⟩ = some (.slice AE 2 f) := keep hb1 (by simp [go_sem])
  have q3 : u1.cell? ⟨w.heap.size, 3, none⟩ = some (.int .i64 0) := keep hb1 (by simp [go_sem])
  have q4 : u1.cell? ⟨w.heap.size, 4, none⟩ = some (.slice AR 0 r) := keep hb1 (by simp [go_sem])
  have s0 : Cl u1 ⟨w.heap.size + 1, 0, none⟩ (.slice none 0 0) := Cl.below (by constructor <;> simp [go_sem]) hb1
  have s1 : Cl u1 ⟨w.heap.size + 1, 1, none⟩ (.slice none 0 0) := Cl.below (by constructor <;> simp [go_sem]) hb1
  have s2 : Cl u1 ⟨w.heap.size + 1, 2, none⟩ (.slice none 0 0) := Cl.below (by constructor <;> simp [go_sem]) hb1
  have s3 : Cl u1 ⟨w.heap.size + 1, 3, none⟩ (.int .i64 0) := Cl.below (by constructor <;> simp [go_sem]) hb1
  have s4 : Cl u1 ⟨w.heap.size + 1, 4, none⟩ (.slice none 0 0) := Cl.below (by constructor <;> simp [go_sem]) hb1
  have hz1 := hb1.size
  simp only [World.size_alloc] at hz1
  have hr1 := (((hr.lt.alloc _).alloc _).below hb1).alloc (.cells #[.slice A1 2 c1, .slice B1 2 d1, .slice E1 2 f1, .int .i64 0, .slice R1 0 r1] 52)
  have hs1 := (((hs.lt.alloc _).alloc _).below hb1).alloc (.cells #[.slice A1 2 c1, .slice B1 2 d1, .slice E1 2 f1, .int .i64 0, .slice R1 0 r1] 52)
  have ht1 := (((ht.lt.alloc _).alloc _).below hb1).alloc (.cells #[.slice A1 2 c1, .slice B1 2 d1, .slice E1 2 f1, .int .i64 0, .slice R1 0 r1] 52)
  have lq := lt_of_cell' q0
  go_wp2_with fail
  refine (l08May_z _ _ _ _ _ _ _ _ _ hr1 hs1 ht1).mono ?_
  rintro e u2 ⟨rfl, hb2⟩
  obtain ⟨gK, hgK⟩ : ∃ gK, gK = u1.heap.size := ⟨_, rfl⟩
  have HGK := Lib.hid hgK
  have g0 : Cl u2 ⟨gK, 0, none⟩ (.slice A1 2 c1) := (Cl.new hgK rfl : Cl (u1.alloc (.cells #[.slice A1 2 c1, .slice B1 2 d1, .slice E1 2 f1, .int .i64 0, .slice R1 0 r1] 52)) _ _).below hb2
  have g1 : Cl u2 ⟨gK, 1, none⟩ (.slice B1 2 d1) := (Cl.new hgK rfl : Cl (u1.alloc (.cells #[.slice A1 2 c1, .slice B1 2 d1, .slice E1 2 f1, .int .i64 0, .slice R1 0 r1] 52)) _ _).below hb2
  have g2 : Cl u2 ⟨gK, 2, none⟩ (.slice E1 2 f1) := (Cl.new hgK rfl : Cl (u1.alloc (.cells #[.slice A1 2 c1, .slice B1 2 d1, .slice E1 2 f1, .int .i64 0, .slice R1 0 r1] 52)) _ _).below hb2
  have g3 : Cl u2 ⟨gK, 3, none⟩ (.int .i64 0) := (Cl.new hgK rfl : Cl (u1.alloc (.cells #[.slice A1 2 c1, .slice B1 2 d1, .slice E1 2 f1, .int .i64 0, .slice R1 0 r1] 52)) _ _).below hb2
  have g4 : Cl u2 ⟨gK, 4, none⟩ (.slice R1 0 r1) := (Cl.new hgK rfl : Cl (u1.alloc (.cells #[.slice A1 2 c1, .slice B1 2 d1, .slice E1 2 f1, .int .i64 0, .slice R1 0 r1] 52)) _ _).below hb2
  replace s0 := (s0.alloc (.cells #[.slice A1 2 c1, .slice B1 2 d1, .slice E1 2 f1, .int .i64 0, .slice R1 0 r1] 52)).below hb2
  replace s1 := (s1.alloc (.cells #[.slice A1 2 c1, .slice B1 2 d1, .slice E1 2 f1, .int .i64 0, .slice R1 0 r1] 52)).below hb2
  replace s2 := (s2.alloc (.cells #[.slice A1 2 c1, .slice B1 2 d1, .slice E1 2 f1, .int .i64 0, .slice R1 0 r1] 52)).below hb2
  replace s3 := (s3.alloc (.cells #[.slice A1 2 c1, .slice B1 2 d1, .slice E1 2 f1, .int .i64 0, .slice R1 0 r1] 52)).below hb2
  replace s4 := (s4.alloc (.cells #[.slice A1 2 c1, .slice B1 2 d1, .slice E1 2 f1, .int .i64 0, .slice R1 0 r1] 52)).below hb2
  have hA2 := (hA.alloc (.cells #[.slice A1 2 c1, .slice B1 2 d1, .slice E1 2 f1, .int .i64 0, .slice R1 0 r1] 52)).below hb2
  have hB2 := (hB.alloc (.cells #[.slice A1 2 c1, .slice B1 2 d1, .slice E1 2 f1, .int .i64 0, .slice R1 0 r1] 52)).below hb2
  have hE2 := (hE.alloc (.cells #[.slice A1 2 c1, .slice B1 2 d1, .slice E1 2 f1, .int .i64 0, .slice R1 0 r1] 52)).below hb2
  have hS' : ∀ b, S b → w.heap.size + 1 < b ∧ b < gK := fun b h => by have := hS b h; simp only [World.size_alloc] at this; omega
  have hT' : ∀ b, T b → w.heap.size + 1 < b ∧ b < gK := fun b h => by have := hT b h; simp only [World.size_alloc] at this; omega
  have hU' : ∀ b, U b → w.heap.size + 1 < b ∧ b < gK := fun b h => by have := hU b h; simp only [World.size_alloc] at this; omega
  have hgw : w.heap.size + 1 < gK := by omega
  have hbw : Below w.heap.size w u2 := by (repeat' (first | (with_reducible exact Below.refl _ _) | (with_reducible refine bel_alloc ?_ ?_ _) | (with_reducible refine Below.setCell ?_ ?_ _) | (with_reducible refine below_drewN ?_ _) | (with_reducible refine Below.drew ?_) | (with_reducible refine bel_step hb1 ?_ ?_) | (with_reducible refine bel_step hb2 ?_ ?_) | (with_reducible exact Nat.le_refl _) | (with_reducible assumption) | omega | (simp only [World.size_alloc, World.size_setCell, World.size_drew]; omega) | (simp; omega) | (simp; done)))
  clear hA hB hE hS hT hU hr1 hs1 ht1 q0 q1 q2 q3 q4 lq hgK hb1 hb2 hr hs ht
  try simp only [← HGK.out]
  go_wp2_with fail
  try simp only [← HGK.out]
  refine (l08New_z gK A1 c1 B1 d1 E1 f1 R1 r1 u2 g0 g1 g2 g3 g4 hA2 hB2 hE2 (fun h => by have := hS' _ h; omega) (fun h => by have := hT' _ h; omega) (fun h => by have := hU' _ h; omega) hST hSU hTU).mono ?_
  rintro e u3 ⟨rfl, k0, k1, k2, k3, k4, hA3, hB3, hE3, ho⟩
  have hz3 := ho.size
  have hout : ∀ x, (x = gK ∨ T x ∨ U x) → w.heap.size + 1 < x := fun x h => h.elim (fun h => by omega) (fun h => h.elim (fun h => (hT' _ h).1) (fun h => (hU' _ h).1))
  replace s0 := s0.outS ho (fun h => by have := hout _ h; dsimp only at this; omega)
  replace s1 := s1.outS ho (fun h => by have := hout _ h; dsimp only at this; omega)
  replace s2 := s2.outS ho (fun h => by have := hout _ h; dsimp only at this; omega)
  replace s3 := s3.outS ho (fun h => by have := hout _ h; dsimp only at this; omega)
  replace s4 := s4.outS ho (fun h => by have := hout _ h; dsimp only at this; omega)
  have k0c := k0.1
  have k1c := k1.1
  have k2c := k2.1
  have k3c := k3.1
  have k4c := k4.1
  have s0c := s0.1
  have s0f := s0.2
  have s1c := s1.1
  have s1f := s1.2
  have s2c := s2.1
  have s2f := s2.2
  have s3c := s3.1
  have s3f := s3.2
  have s4c := s4.1
  have s4f := s4.2
  have lk := lt_of_cell' k0c
  have ls := lt_of_cell' s0c
  have hbw3 : Below w.heap.size w u3 := bel_outS ho (fun b hb => by have := hout _ hb; omega) hbw (Nat.le_refl _)
  clear s0 s1 s2 s3 s4 k0 k1 k2 k3 k4 g0 g1 g2 g3 g4 hA2 hB2 hE2 ho hbw
  go_wp2_with fail
  refine bodyPost_ret (v := .tuple #[.agg #[.slice A1 2 c1, .slice B1 2 d1, .slice E1 2 f1, .int .i64 1, .slice R1 0 r1], .bool true]) (by simp [results, Try.results24, go_sem, s0c, s1c, s2c, s3c, s4c]) rfl ⟨A1, c1, B1, d1, E1, f1, R1, r1, S, T, U, rfl, ?_, ?_, ?_, fun b h => by have := hS' b h; simp; omega, fun b h => by have := hT' b h; simp; omega, fun b h => by have := hU' b h; simp; omega, ?_⟩
  · exact (((((hA3.setOut (b := w.heap.size + 1) (o := 0) _ (fun h => by have := hS' _ h; omega)).setOut (b := w.heap.size + 1) (o := 1) _ (fun h => by have := hS' _ h; omega)).setOut (b := w.heap.size + 1) (o := 2) _ (fun h => by have := hS' _ h; omega)).setOut (b := w.heap.size + 1) (o := 3) _ (fun h => by have := hS' _ h; omega)).setOut (b := w.heap.size + 1) (o := 4) _ (fun h => by have := hS' _ h; omega))
  · exact (((((hB3.setOut (b := w.heap.size + 1) (o := 0) _ (fun h => by have := hT' _ h; omega)).setOut (b := w.heap.size + 1) (o := 1) _ (fun h => by have := hT' _ h; omega)).setOut (b := w.heap.size + 1) (o := 2) _ (fun h => by have := hT' _ h; omega)).setOut (b := w.heap.size + 1) (o := 3) _ (fun h => by have := hT' _ h; omega)).setOut (b := w.heap.size + 1) (o := 4) _ (fun h => by have := hT' _ h; omega))
  · exact (((((hE3.setOut (b := w.heap.size + 1) (o := 0) _ (fun h => by have := hU' _ h; omega)).setOut (b := w.heap.size + 1) (o := 1) _ (fun h => by have := hU' _ h; omega)).setOut (b := w.heap.size + 1) (o := 2) _ (fun h => by have := hU' _ h; omega)).setOut (b := w.heap.size + 1) (o := 3) _ (fun h => by have := hU' _ h; omega)).setOut (b := w.heap.size + 1) (o := 4) _ (fun h => by have := hU' _ h; omega))
  · exact (((((hbw3.setCell (p := ⟨w.heap.size + 1, 0, none⟩) (by show w.heap.size ≤ w.heap.size + 1; omega) _).setCell (p := ⟨w.heap.size + 1, 1, none⟩) (by show w.heap.size ≤ w.heap.size + 1; omega) _).setCell (p := ⟨w.heap.size + 1, 2, none⟩) (by show w.heap.size ≤ w.heap.size + 1; omega) _).setCell (p := ⟨w.heap.size + 1, 3, none⟩) (by show w.heap.size ≤ w.heap.size + 1; omega) _).setCell (p := ⟨w.heap.size + 1, 4, none⟩) (by show w.heap.size ≤ w.heap.size + 1; omega) _)
end Go.Proofs.Ytljholnnhogdkaa
