/- l08New of the reference, at two. -/
import Derived.Test.YtljholnnhogdkaaGKx
namespace Go.Proofs.Ytljholnnhogdkaa
open Go.ChangeShapes Go.WideShapes Go.ChangeAt Go.RowKit
set_option linter.unusedVariables false
set_option linter.unusedSimpArgs false
attribute [local go_sem ↓] Go.wp_at_zero Go.wp_at_succ

def NK (gK : Nat) (w : World) (A : Option Addr) (c : Nat) (B : Option Addr) (d : Nat) (AE : Option Addr) (f : Nat) (AR : Option Addr) (r : Nat) (S T U : Nat → Prop) (e : Ending) (w' : World) : Prop :=
  e = .returned (.bool true) ∧ Cl w' ⟨gK, 0, none⟩ (.slice A 2 c) ∧ Cl w' ⟨gK, 1, none⟩ (.slice B 2 d) ∧ Cl w' ⟨gK, 2, none⟩ (.slice AE 2 f) ∧ Cl w' ⟨gK, 3, none⟩ (.int .i64 1) ∧ Cl w' ⟨gK, 4, none⟩ (.slice AR 0 r) ∧ Wr2 iv w' S A (m2 z16) ∧ Wr w' T B (bl us0) ∧ Wr w' U AE (pv es0) ∧ OutS (fun b => b = gK ∨ T b ∨ U b) w w'
set_option maxHeartbeats 8000000 in
set_option maxRecDepth 100000 in
theorem l08New_z (gK : Nat) (A : Option Addr) (c : Nat) (B : Option Addr) (d : Nat) (AE : Option Addr) (f : Nat) (AR : Option Addr) (r : Nat) (w : World) {S T U : Nat → Prop} (g0 : Cl w ⟨gK, 0, none⟩ (.slice A 2 c)) (g1 : Cl w ⟨gK, 1, none⟩ (.slice B 2 d)) (g2 : Cl w ⟨gK, 2, none⟩ (.slice AE 2 f)) (g3 : Cl w ⟨gK, 3, none⟩ (.int .i64 0)) (g4 : Cl w ⟨gK, 4, none⟩ (.slice AR 0 r))
    (hA : Wr2 iv w S A (m2 z16)) (hB : Wr w T B (bl uz)) (hE : Wr w U AE (pv ez)) (hS : ¬ S gK) (hT : ¬ T gK) (hU : ¬ U gK) (hST : ∀ b, S b → ¬ T b) (hSU : ∀ b, S b → ¬ U b) (hTU : ∀ b, T b → ¬ U b) :
    Calls Try.prog 46 #[.pointer (some ⟨gK, 0, none⟩), .int .i64 0] w (NK gK w A c B d AE f AR r S T U) := by
  have g0c := g0.1
  have g1c := g1.1
  have lg := lt_of_cell' g0c
  go_enter Try.func46, Try.ntmps46
  go_wp2_with fail
  refine (l05Free_z _ _ _ _ _ hB.rd).mono ?_
  rintro e w1 ⟨rfl, hb1⟩
  replace g0 := g0.below hb1
  replace g1 := g1.below hb1
  replace g2 := g2.below hb1
  replace g3 := g3.below hb1
  replace g4 := g4.below hb1
  replace hA := hA.below hb1
  replace hB := hB.below hb1
  replace hE := hE.below hb1
  have ho1 : OutS (fun b => b = gK ∨ T b ∨ U b) w w1 := OutS.of_below hb1
  clear g0c g1c lg hb1
  have lg := lt_of_cell' g0.1
  go_wp2_with fail
  refine (l08Call_z _ _ _ _ g3 g4).mono ?_
  rintro e w2' ⟨rfl, n, rfl⟩
  replace g0 : Cl ((w1.setCell ⟨gK, 3, none⟩ (.int .i64 1)).drewN n) ⟨gK, 0, none⟩ _ := g0.other _ (by simp)
  replace g1 : Cl ((w1.setCell ⟨gK, 3, none⟩ (.int .i64 1)).drewN n) ⟨gK, 1, none⟩ _ := g1.other _ (by simp)
  replace g2 : Cl ((w1.setCell ⟨gK, 3, none⟩ (.int .i64 1)).drewN n) ⟨gK, 2, none⟩ _ := g2.other _ (by simp)
  replace g3 : Cl ((w1.setCell ⟨gK, 3, none⟩ (.int .i64 1)).drewN n) ⟨gK, 3, none⟩ (.int .i64 1) := g3.same _
  replace g4 : Cl ((w1.setCell ⟨gK, 3, none⟩ (.int .i64 1)).drewN n) ⟨gK, 4, none⟩ _ := g4.other _ (by simp)
  replace hA : Wr2 iv ((w1.setCell ⟨gK, 3, none⟩ (.int .i64 1)).drewN n) S A (m2 z16) := (Wr2.setOut hA (b := gK) (o := 3) (.int .i64 1) hS).below (below_drewN (Below.refl _ _) n)
  replace hB : Wr ((w1.setCell ⟨gK, 3, none⟩ (.int .i64 1)).drewN n) T B (bl uz) := hB.setOut _ hT
  replace hE : Wr ((w1.setCell ⟨gK, 3, none⟩ (.int .i64 1)).drewN n) U AE (pv ez) := hE.setOut _ hU
  have ho2 : OutS (fun b => b = gK ∨ T b ∨ U b) w ((w1.setCell ⟨gK, 3, none⟩ (.int .i64 1)).drewN n) := (ho1.trans (OutS.set w1 _ (.inl rfl))).trans (OutS.of_below (below_drewN (Below.refl _ _) n))
  generalize (w1.setCell ⟨gK, 3, none⟩ (.int .i64 1)).drewN n = w2 at *
  clear ho1 lg
  have g2c := g2.1
  have lg := lt_of_cell' g2c
  go_wp2_with (go_at_call 30; refine (l01In_q _ _ _ _).mono ?_; rintro e w2 ⟨rfl, rfl⟩; rw [show btw 0 0 1 = true from rfl])
  refine (l08Mode_z _ _ _ _ hE.rd g2c).mono ?_
  rintro e w3 ⟨rfl, hb3⟩
  replace g0 := g0.below hb3
  replace g1 := g1.below hb3
  replace g2 := g2.below hb3
  replace g3 := g3.below hb3
  replace g4 := g4.below hb3
  replace hA := hA.below hb3
  replace hB := hB.below hb3
  replace hE := hE.below hb3
  have ho3 : OutS (fun b => b = gK ∨ T b ∨ U b) w w3 := ho2.trans (OutS.of_below hb3)
  clear ho2 hb3 g2c lg
  obtain ⟨bb, bo, hBe, hTb, hcb⟩ := hB.at_ (k := 0) (v := .bool false) rfl
  obtain ⟨eb, eo, hEe, hUe, hce0⟩ := hE.at_ (k := 0) (v := .int .i64 0) rfl
  obtain ⟨eb', eo', hEe', -, hce1⟩ := hE.at_ (k := 1) (v := .int .i64 0) rfl
  rw [hEe] at hEe'
  injection hEe' with h
  injection h with h1 h2
  subst h1 h2 hBe hEe
  have nb : bb ≠ gK := fun e => hT (e ▸ hTb)
  have ne : eb ≠ gK := fun e => hU (e ▸ hUe)
  have nbe : bb ≠ eb := fun e => hTU _ hTb (e ▸ hUe)
  have wB : Wr (((w3.setCell ⟨bb, bo, none⟩ (.bool true)).setCell ⟨eb, eo, none⟩ (.int .i64 2)).setCell ⟨eb, eo + 1, none⟩ (.int .i64 0)) T (some ⟨bb, bo, none⟩) (bl us0) := ((show Wr (w3.setCell ⟨bb, bo, none⟩ (.bool true)) T (some ⟨bb, bo, none⟩) (bl us0) from hB.set (k := 0) rfl (.bool true)).setOut _ (fun h => hTU _ h hUe)).setOut _ (fun h => hTU _ h hUe)
  have wE : Wr (((w3.setCell ⟨bb, bo, none⟩ (.bool true)).setCell ⟨eb, eo, none⟩ (.int .i64 2)).setCell ⟨eb, eo + 1, none⟩ (.int .i64 0)) U (some ⟨eb, eo, none⟩) (pv es0) := ((hE.setOut (b := bb) (o := bo) (.bool true) (hTU _ hTb)).set (k := 0) rfl (.int .i64 2)).set (k := 1) rfl (.int .i64 0)
  have wA : Wr2 iv (((w3.setCell ⟨bb, bo, none⟩ (.bool true)).setCell ⟨eb, eo, none⟩ (.int .i64 2)).setCell ⟨eb, eo + 1, none⟩ (.int .i64 0)) S A (m2 z16) := ((hA.setOut (b := bb) (o := bo) _ (fun h => hST _ h hTb)).setOut (b := eb) (o := eo) _ (fun h => hSU _ h hUe)).setOut (b := eb) (o := eo + 1) _ (fun h => hSU _ h hUe)
  have o3 : ∀ {o : Nat} {v : Value}, Cl w3 ⟨gK, o, none⟩ v → Cl (((w3.setCell ⟨bb, bo, none⟩ (.bool true)).setCell ⟨eb, eo, none⟩ (.int .i64 2)).setCell ⟨eb, eo + 1, none⟩ (.int .i64 0)) ⟨gK, o, none⟩ v := fun h => ((h.other _ (by simp <;> omega)).other _ (by simp <;> omega)).other _ (by simp <;> omega)
  have x0 := o3 g0
  have x1 := o3 g1
  have x2 := o3 g2
  have x3 := o3 g3
  have x4 := o3 g4
  have hoF : OutS (fun b => b = gK ∨ T b ∨ U b) w (((w3.setCell ⟨bb, bo, none⟩ (.bool true)).setCell ⟨eb, eo, none⟩ (.int .i64 2)).setCell ⟨eb, eo + 1, none⟩ (.int .i64 0)) := ((ho3.trans (OutS.set w3 _ (.inr (.inl hTb)))).trans (OutS.set _ _ (.inr (.inr hUe)))).trans (OutS.set _ _ (.inr (.inr hUe)))
  have HX := Lib.hid (show NK gK w A c (some ⟨bb, bo, none⟩) d (some ⟨eb, eo, none⟩) f AR r S T U (.returned (.bool true)) (((w3.setCell ⟨bb, bo, none⟩ (.bool true)).setCell ⟨eb, eo, none⟩ (.int .i64 2)).setCell ⟨eb, eo + 1, none⟩ (.int .i64 0)) from ⟨rfl, x0, x1, x2, x3, x4, wA, wB, wE, hoF⟩)
  have g1c := g1.1
  have g2c := g2.1
  have lg := lt_of_cell' g2c
  have hcb0 : w3.cell? ⟨bb, bo, none⟩ = some (.bool false) := hcb.1
  have hcbf : w3.frozen? ⟨bb, bo, none⟩ = false := hcb.2
  have hc0 : w3.cell? ⟨eb, eo, none⟩ = some (.int .i64 0) := hce0.1
  have hc0f : w3.frozen? ⟨eb, eo, none⟩ = false := hce0.2
  have hc1 : w3.cell? ⟨eb, eo + 1, none⟩ = some (.int .i64 0) := hce1.1
  have hc1f : w3.frozen? ⟨eb, eo + 1, none⟩ = false := hce1.2
  have lb := lt_of_cell' hcb0
  have le := lt_of_cell' hc0
  have nb' := nb.symm
  have ne' := ne.symm
  have nbe' := nbe.symm
  clear wB wE wA o3 x0 x1 x2 x3 x4 hoF ho3 hA hB hE hcb hce0 hce1
  go_wp2
  go_ret
  exact HX.out
end Go.Proofs.Ytljholnnhogdkaa
