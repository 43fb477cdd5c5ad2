/- The laws' toMachine. -/
import Derived.Test.YtljholnnhogdkaaMacA
namespace Go.Proofs.Ytljholnnhogdkaa
open Go.ChangeShapes Go.WideShapes Go.ChangeAt Go.RowKit
set_option linter.unusedVariables false
set_option linter.unusedSimpArgs false

def MadeMachineW (xss : List (List Int)) (us : List Bool) (es : List En) (w : World) (e : Ending) (w' : World) : Prop :=
  ∃ A c B d AE f S T U, e = .returned (.agg #[.slice A xss.length c, .slice B us.length d, .slice AE es.length f]) ∧ (xss.length ≤ c ∧ c ≤ maxLen) ∧ (us.length ≤ d ∧ d ≤ maxLen) ∧ (es.length ≤ f ∧ f ≤ maxLen) ∧ Wr2c iv w' S A xss ∧ Wr w' T B (bl us) ∧ Wr w' U AE (pv es) ∧ New S w w' ∧ New T w w' ∧ New U w w' ∧ (∀ b, S b → ¬ T b) ∧ (∀ b, S b → ¬ U b) ∧ (∀ b, T b → ¬ U b) ∧ Below w.heap.size w w'
set_option maxHeartbeats 4000000 in
theorem toMachine_w (A : Option Addr) (c : Nat) (B : Option Addr) (d : Nat) (AE : Option Addr) (f : Nat) (xss : List (List Int)) (us : List Bool) (es : List En) (w : World) {B1 B2 B3 : Nat} (hr : Rd2 iv w B1 A xss) (hs : Rd w B2 B (bl us)) (ht : Rd w B3 AE (pv es)) (hn : MRows xss us es) :
    Calls Try.prog 20 #[.agg #[.slice A xss.length c, .slice B us.length d, .slice AE es.length f]] w (MadeMachineW xss us es w) := by
  replace hs := hs.lt
  replace ht := ht.lt
  go_enter Try.func20, Try.ntmps20
  go_wp2_with fail
  refine (toFrames_w _ _ _ _ _ _ _ (((hr.alloc _).alloc _).alloc _) (((hs.alloc _).alloc _).alloc _) hn.1 hn.2.1).mono ?_
  rintro e w1 ⟨A', c', B', d', S, T, rfl, hcap, hcap1, ho, hoT, hN, hNT, hST, hb⟩
  have a0 : w1.cell? ⟨w.heap.size, 0, none⟩ = some (.slice A xss.length c) := keep hb (by simp [go_sem])
  have a1 : w1.cell? ⟨w.heap.size, 1, none⟩ = some (.slice B us.length d) := keep hb (by simp [go_sem])
  have a2 : w1.cell? ⟨w.heap.size, 2, none⟩ = some (.slice AE es.length f) := keep hb (by simp [go_sem])
  have b0 : Cl w1 ⟨w.heap.size + 1, 0, none⟩ (.slice none 0 0) := Cl.below (by constructor <;> simp [go_sem]) hb
  have b1 : Cl w1 ⟨w.heap.size + 1, 1, none⟩ (.slice none 0 0) := Cl.below (by constructor <;> simp [go_sem]) hb
  have b2 : Cl w1 ⟨w.heap.size + 1, 2, none⟩ (.slice none 0 0) := Cl.below (by constructor <;> simp [go_sem]) hb
  have d0 : Cl w1 ⟨w.heap.size + 1 + 1, 0, none⟩ (.slice none 0 0) := Cl.below (by constructor <;> simp [go_sem]) hb
  have d1 : Cl w1 ⟨w.heap.size + 1 + 1, 1, none⟩ (.slice none 0 0) := Cl.below (by constructor <;> simp [go_sem]) hb
  have d2 : Cl w1 ⟨w.heap.size + 1 + 1, 2, none⟩ (.slice none 0 0) := Cl.below (by constructor <;> simp [go_sem]) hb
  have hN' : ∀ b, S b → w.heap.size + 3 ≤ b ∧ b < w1.heap.size := fun b hb => by have := hN b hb; simp only [World.size_alloc] at this; omega
  have hN1 : ∀ b, T b → w.heap.size + 3 ≤ b ∧ b < w1.heap.size := fun b hb => by have := hNT b hb; simp only [World.size_alloc] at this; omega
  have ht1 := (((ht.alloc _).alloc _).alloc _).below hb
  have hz1 := hb.size
  simp only [World.size_alloc] at hz1
  have d0c := d0.1
  have d0f := d0.2
  have d1c := d1.1
  have d1f := d1.2
  go_wp2_with fail
  have ho2 := (ho.setOut (b := w.heap.size + 1 + 1) (o := 0) (.slice A' xss.length c') (fun h => by have := hN' _ h; omega)).setOut (b := w.heap.size + 1 + 1) (o := 1) (.slice B' us.length d') (fun h => by have := hN' _ h; omega)
  have hoT2 := (hoT.setOut (b := w.heap.size + 1 + 1) (o := 0) (.slice A' xss.length c') (fun h => by have := hN1 _ h; omega)).setOut (b := w.heap.size + 1 + 1) (o := 1) (.slice B' us.length d') (fun h => by have := hN1 _ h; omega)
  replace b0 := (b0.other (q := ⟨w.heap.size + 1 + 1, 0, none⟩) (.slice A' xss.length c') (by simp)).other (q := ⟨w.heap.size + 1 + 1, 1, none⟩) (.slice B' us.length d') (by simp)
  replace b1 := (b1.other (q := ⟨w.heap.size + 1 + 1, 0, none⟩) (.slice A' xss.length c') (by simp)).other (q := ⟨w.heap.size + 1 + 1, 1, none⟩) (.slice B' us.length d') (by simp)
  replace b2 := (b2.other (q := ⟨w.heap.size + 1 + 1, 0, none⟩) (.slice A' xss.length c') (by simp)).other (q := ⟨w.heap.size + 1 + 1, 1, none⟩) (.slice B' us.length d') (by simp)
  replace d2 := (d2.other (q := ⟨w.heap.size + 1 + 1, 0, none⟩) (.slice A' xss.length c') (by simp)).other (q := ⟨w.heap.size + 1 + 1, 1, none⟩) (.slice B' us.length d') (by simp)
  have d0' := (d0.same (.slice A' xss.length c')).other (q := ⟨w.heap.size + 1 + 1, 1, none⟩) (.slice B' us.length d') (by simp)
  have d1' := (d1.other (q := ⟨w.heap.size + 1 + 1, 0, none⟩) (.slice A' xss.length c') (by simp)).same (.slice B' us.length d')
  have ht2 := (ht1.outS (OutS.set (S := fun x => w.heap.size + 1 + 1 = x) w1 (b := w.heap.size + 1 + 1) (o := 0) (.slice A' xss.length c') rfl) (fun b hb => by subst hb; omega)).outS (OutS.set (S := fun x => w.heap.size + 1 + 1 = x) _ (b := w.heap.size + 1 + 1) (o := 1) (.slice B' us.length d') rfl) (fun b hb => by subst hb; omega)
  refine (toTable_w _ _ _ _ ht2 hn.2.2).mono ?_
  rintro e w2 ⟨E', f', U, rfl, hcap2, hoU, hNU, hb2⟩
  have hz2 := hb2.size
  simp only [World.size_setCell] at hz2
  replace b0 := b0.below hb2
  replace b1 := b1.below hb2
  replace b2 := b2.below hb2
  replace d2 := d2.below hb2
  replace d0' := d0'.below hb2
  replace d1' := d1'.below hb2
  replace ho2 := ho2.below hb2
  replace hoT2 := hoT2.below hb2
  have hNU' : ∀ b, U b → w1.heap.size ≤ b ∧ b < w2.heap.size := fun b hb => by have := hNU b hb; simp only [World.size_setCell] at this; exact this
  clear d0c d0f d0 d1c d1f d1 a0 a1 a2
  have c1 := b0.1
  have c2 := b0.2
  have c3 := b1.1
  have c4 := b1.2
  have c5 := b2.1
  have c6 := b2.2
  have c7 := d0'.1
  have c8 := d0'.2
  have c9 := d1'.1
  have c10 := d1'.2
  have c11 := d2.1
  have c12 := d2.2
  go_wp2
  refine bodyPost_ret (v := .agg #[.slice A' xss.length c', .slice B' us.length d', .slice E' es.length f']) (by simp [results, Try.results20, go_sem, c1, c3, c5, c7, c9, c11]) rfl ⟨A', c', B', d', E', f', S, T, U, rfl, hcap, hcap1, hcap2, ?_, ?_, ?_, New.mk hN' (by omega) (by simp; omega), New.mk hN1 (by omega) (by simp; omega), New.mk hNU' (by omega) (by simp), hST, fun b h1 h2 => by have := hN' b h1; have := hNU' b h2; omega, fun b h1 h2 => by have := hN1 b h1; have := hNU' b h2; omega, ?_⟩
  · refine Wr2c.setOut (Wr2c.setOut (Wr2c.setOut (Wr2c.setOut ho2 _ ?_) _ ?_) _ ?_) _ ?_ <;> exact fun h => by have := hN' _ h; omega
  · refine Wr.setOut (Wr.setOut (Wr.setOut (Wr.setOut hoT2 _ ?_) _ ?_) _ ?_) _ ?_ <;> exact fun h => by have := hN1 _ h; omega
  · refine Wr.setOut (Wr.setOut (Wr.setOut (Wr.setOut hoU _ ?_) _ ?_) _ ?_) _ ?_ <;> exact fun h => by have := hNU' _ h; omega
  · (repeat' (first | (with_reducible exact Below.refl _ _) | (with_reducible refine bel_alloc ?_ ?_ _) | (with_reducible refine Below.setCell ?_ ?_ _) | (with_reducible refine below_drewN ?_ _) | (with_reducible refine Below.drew ?_) | (with_reducible refine bel_step hb ?_ ?_) | (with_reducible refine bel_step hb2 ?_ ?_) | (with_reducible exact Nat.le_refl _) | (with_reducible assumption) | omega | (simp only [World.size_alloc, World.size_setCell, World.size_drew]; omega) | (simp; omega) | (simp; done)))
end Go.Proofs.Ytljholnnhogdkaa
