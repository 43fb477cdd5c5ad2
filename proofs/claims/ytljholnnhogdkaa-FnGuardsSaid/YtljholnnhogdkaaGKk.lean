/- KernelOk, KernelNew of the reference, at two and no refusals. -/
import Derived.Test.YtljholnnhogdkaaGKm
import Derived.Deep.RegionLaw
import Derived.Deep.DeepCutAuto
namespace Go.Proofs.Ytljholnnhogdkaa
open Go.ChangeShapes Go.WideShapes Go.ChangeAt Go.RowKit
set_option linter.unusedVariables false
set_option linter.unusedSimpArgs false
attribute [local go_sem ↓] Go.wp_at_zero Go.wp_at_succ

theorem own_litd' {w : World} {g : Nat} {e : TypeId} {size : Nat} (hg : g = w.heap.size) : (w.alloc (.cells #[] e)).drew.ownsRow g e size (.slice (some ⟨g, 0, none⟩) 0 0) 0 [] := own_empty hg (Nat.le_refl _)
theorem mkz : mkOkB (m2 z16) uz ez = true := by decide
theorem rowsz : MRows (m2 z16) uz ez := ⟨(rows2 RowOk.z).1, by show 2 ≤ _; omega, by show 2 ≤ _; omega⟩
set_option maxHeartbeats 8000000 in
set_option maxRecDepth 100000 in
theorem kernelOk_s (A : Option Addr) (c : Nat) (B : Option Addr) (d : Nat) (AE : Option Addr) (f : Nat) (AR : Option Addr) (r : Nat) (w : World) {B1 B2 B3 : Nat} (hr : Rd2 iv w B1 A (m2 z16)) (hs : Rd w B2 B (bl uz)) (ht : Rd w B3 AE (pv ez)) :
    Calls Try.prog 43 #[.agg #[.slice A 2 c, .slice B 2 d, .slice AE 2 f, .int .i64 0, .slice AR 0 r]] w fun e w' => e = .returned (.bool true) ∧ Below w.heap.size w w' := by
  have HMO := Lib.hid (fun (W : World) (B1 B2 B3 : Nat) (hr : Rd2 iv W B1 A (m2 z16)) (hs : Rd W B2 B (bl uz)) (ht : Rd W B3 AE (pv ez)) => (show Calls Try.prog 51 #[.agg #[.slice A 2 c, .slice B 2 d, .slice AE 2 f]] W _ from machineOk_s A c B d AE f (m2 z16) uz ez W hr hs ht rowsz true mkz))
  go_enter Try.func43, Try.ntmps43
  go_wp2
  go_loopw [3] (fun v wr => v = .int .i64 0 ∧ wr = w.alloc (.cells #[.slice A 2 c, .slice B 2 d, .slice AE 2 f, .int .i64 0, .slice AR 0 r] 52)) (fun v _ => 0)
  case atStart => exact ⟨rfl, rfl⟩
  case round =>
  obtain ⟨rfl, rfl⟩ := hrel
  go_wp2_with fail
  refine (HMO.out _ _ _ _ (hr.alloc _) (hs.alloc _) (ht.alloc _)).mono ?_
  rintro e w1 ⟨rfl, hb1⟩
  have k0 : w1.cell? ⟨w.heap.size, 0, none⟩ = some (.slice A 2 c) := keep hb1 (by simp [go_sem])
  have k1 : w1.cell? ⟨w.heap.size, 1, none⟩ = some (.slice B 2 d) := keep hb1 (by simp [go_sem])
  have k2 : w1.cell? ⟨w.heap.size, 2, none⟩ = some (.slice AE 2 f) := keep hb1 (by simp [go_sem])
  have k3 : w1.cell? ⟨w.heap.size, 3, none⟩ = some (.int .i64 0) := keep hb1 (by simp [go_sem])
  have k4 : w1.cell? ⟨w.heap.size, 4, none⟩ = some (.slice AR 0 r) := keep hb1 (by simp [go_sem])
  go_wp2_with (go_at_call 30; refine (l01In_q _ _ _ _).mono ?_; rintro e w2 ⟨rfl, rfl⟩; rw [show btw 0 0 100000 = true from rfl])
  go_ret
  exact ⟨rfl, by (repeat' (first | (with_reducible exact Below.refl _ _) | (with_reducible refine bel_alloc ?_ ?_ _) | (with_reducible refine Below.setCell ?_ ?_ _) | (with_reducible refine below_drewN ?_ _) | (with_reducible refine Below.drew ?_) | (with_reducible refine bel_step hb1 ?_ ?_) | (with_reducible exact Nat.le_refl _) | (with_reducible assumption) | omega | (simp only [World.size_alloc, World.size_setCell, World.size_drew]; omega) | (simp; omega) | (simp; done)))⟩
def MKN (us : List Bool) (es : List En) (n : Int) (ok : Bool) (w : World) (e : Ending) (w' : World) : Prop :=
  ∃ A c B d AE f AR r S T U, e = .returned (.tuple #[.agg #[.slice A 2 c, .slice B 2 d, .slice AE 2 f, .int .i64 n, .slice AR 0 r], .bool ok]) ∧ Wr2 iv w' S A (m2 z16) ∧ Wr w' T B (bl us) ∧ Wr w' U AE (pv es) ∧ New S w w' ∧ New T w w' ∧ New U w w' ∧ Below w.heap.size w w'
def KSt (gK : Nat) (w w4 : World) (A : Option Addr) (c : Nat) (B : Option Addr) (d : Nat) (AE : Option Addr) (f : Nat) (A3 : Option Addr) (c3 : Nat) (S T U : Nat → Prop) : Prop :=
  Cl w4 ⟨gK, 0, none⟩ (.slice A 2 c) ∧ Cl w4 ⟨gK, 1, none⟩ (.slice B 2 d) ∧ Cl w4 ⟨gK, 2, none⟩ (.slice AE 2 f) ∧ Cl w4 ⟨gK, 3, none⟩ (.int .i64 0) ∧ Cl w4 ⟨gK, 4, none⟩ (.slice A3 0 c3) ∧ Wr2 iv w4 S A (m2 z16) ∧ Wr w4 T B (bl uz) ∧ Wr w4 U AE (pv ez) ∧
  Cl w4 ⟨w.heap.size, 0, none⟩ (.slice none 0 0) ∧ Cl w4 ⟨w.heap.size, 1, none⟩ (.slice none 0 0) ∧ Cl w4 ⟨w.heap.size, 2, none⟩ (.slice none 0 0) ∧ Cl w4 ⟨w.heap.size, 3, none⟩ (.int .i64 0) ∧ Cl w4 ⟨w.heap.size, 4, none⟩ (.slice none 0 0) ∧ w.heap.size < gK ∧ Below w.heap.size w w4 ∧ (∀ b, S b → w.heap.size < b ∧ b < w4.heap.size) ∧ (∀ b, T b → w.heap.size < b ∧ b < w4.heap.size) ∧ (∀ b, U b → w.heap.size < b ∧ b < w4.heap.size)
theorem KSt.new {gK : Nat} {w w3 : World} {A : Option Addr} {c : Nat} {B : Option Addr} {d : Nat} {AE : Option Addr} {f : Nat} {A3 : Option Addr} {c3 : Nat} {S T U : Nat → Prop} {t : TypeId} (hg : gK = w3.heap.size)
    (hA : Wr2 iv w3 S A (m2 z16)) (hB : Wr w3 T B (bl uz)) (hE : Wr w3 U AE (pv ez)) (r0 : Cl w3 ⟨w.heap.size, 0, none⟩ (.slice none 0 0)) (r1 : Cl w3 ⟨w.heap.size, 1, none⟩ (.slice none 0 0)) (r2 : Cl w3 ⟨w.heap.size, 2, none⟩ (.slice none 0 0)) (r3 : Cl w3 ⟨w.heap.size, 3, none⟩ (.int .i64 0)) (r4 : Cl w3 ⟨w.heap.size, 4, none⟩ (.slice none 0 0)) (hb : Below w.heap.size w w3)
    (hS : ∀ b, S b → w.heap.size < b ∧ b < w3.heap.size) (hT : ∀ b, T b → w.heap.size < b ∧ b < w3.heap.size) (hU : ∀ b, U b → w.heap.size < b ∧ b < w3.heap.size) :
    KSt gK w (w3.alloc (.cells #[.slice A 2 c, .slice B 2 d, .slice AE 2 f, .int .i64 0, .slice A3 0 c3] t)) A c B d AE f A3 c3 S T U :=
  ⟨Cl.new hg rfl, Cl.new hg rfl, Cl.new hg rfl, Cl.new hg rfl, Cl.new hg rfl, hA.alloc _, hB.alloc _, hE.alloc _, r0.alloc _, r1.alloc _, r2.alloc _, r3.alloc _, r4.alloc _, by rw [hg]; exact lt_of_cell' r0.1, hb.alloc hb.size _, fun b h => by have := hS b h; simp; omega, fun b h => by have := hT b h; simp; omega, fun b h => by have := hU b h; simp; omega⟩
theorem KSt.set {gK : Nat} {w w3 : World} {A : Option Addr} {c : Nat} {B : Option Addr} {d : Nat} {AE : Option Addr} {f : Nat} {A3 : Option Addr} {c3 : Nat} {S T U : Nat → Prop} {v0 v1 v2 v3 v4 : Value}
    (g0 : Cl w3 ⟨gK, 0, none⟩ v0) (g1 : Cl w3 ⟨gK, 1, none⟩ v1) (g2 : Cl w3 ⟨gK, 2, none⟩ v2) (g3 : Cl w3 ⟨gK, 3, none⟩ v3) (g4 : Cl w3 ⟨gK, 4, none⟩ v4) (hgK : w.heap.size < gK) (hS' : ∀ b, S b → b ≠ gK) (hT' : ∀ b, T b → b ≠ gK) (hU' : ∀ b, U b → b ≠ gK)
    (hA : Wr2 iv w3 S A (m2 z16)) (hB : Wr w3 T B (bl uz)) (hE : Wr w3 U AE (pv ez)) (r0 : Cl w3 ⟨w.heap.size, 0, none⟩ (.slice none 0 0)) (r1 : Cl w3 ⟨w.heap.size, 1, none⟩ (.slice none 0 0)) (r2 : Cl w3 ⟨w.heap.size, 2, none⟩ (.slice none 0 0)) (r3 : Cl w3 ⟨w.heap.size, 3, none⟩ (.int .i64 0)) (r4 : Cl w3 ⟨w.heap.size, 4, none⟩ (.slice none 0 0)) (hb : Below w.heap.size w w3)
    (hS : ∀ b, S b → w.heap.size < b ∧ b < w3.heap.size) (hT : ∀ b, T b → w.heap.size < b ∧ b < w3.heap.size) (hU : ∀ b, U b → w.heap.size < b ∧ b < w3.heap.size) :
    KSt gK w (((((w3.setCell ⟨gK, 0, none⟩ (.slice A 2 c)).setCell ⟨gK, 1, none⟩ (.slice B 2 d)).setCell ⟨gK, 2, none⟩ (.slice AE 2 f)).setCell ⟨gK, 3, none⟩ (.int .i64 0)).setCell ⟨gK, 4, none⟩ (.slice A3 0 c3)) A c B d AE f A3 c3 S T U := by
  have o5 : ∀ {o : Nat} {v : Value}, Cl w3 ⟨w.heap.size, o, none⟩ v → Cl (((((w3.setCell ⟨gK, 0, none⟩ (.slice A 2 c)).setCell ⟨gK, 1, none⟩ (.slice B 2 d)).setCell ⟨gK, 2, none⟩ (.slice AE 2 f)).setCell ⟨gK, 3, none⟩ (.int .i64 0)).setCell ⟨gK, 4, none⟩ (.slice A3 0 c3)) ⟨w.heap.size, o, none⟩ v := fun h => ((((h.other _ (by simp <;> omega)).other _ (by simp <;> omega)).other _ (by simp <;> omega)).other _ (by simp <;> omega)).other _ (by simp <;> omega)
  exact ⟨((((g0.same _).other _ (by simp)).other _ (by simp)).other _ (by simp)).other _ (by simp), ((((g1.other _ (by simp)).same _).other _ (by simp)).other _ (by simp)).other _ (by simp), ((((g2.other _ (by simp)).other _ (by simp)).same _).other _ (by simp)).other _ (by simp), ((((g3.other _ (by simp)).other _ (by simp)).other _ (by simp)).same _).other _ (by simp), ((((g4.other _ (by simp)).other _ (by simp)).other _ (by simp)).other _ (by simp)).same _,
    ((((hA.setOut _ (fun h => hS' _ h rfl)).setOut _ (fun h => hS' _ h rfl)).setOut _ (fun h => hS' _ h rfl)).setOut _ (fun h => hS' _ h rfl)).setOut _ (fun h => hS' _ h rfl),
    ((((hB.setOut _ (fun h => hT' _ h rfl)).setOut _ (fun h => hT' _ h rfl)).setOut _ (fun h => hT' _ h rfl)).setOut _ (fun h => hT' _ h rfl)).setOut _ (fun h => hT' _ h rfl),
    ((((hE.setOut _ (fun h => hU' _ h rfl)).setOut _ (fun h => hU' _ h rfl)).setOut _ (fun h => hU' _ h rfl)).setOut _ (fun h => hU' _ h rfl)).setOut _ (fun h => hU' _ h rfl),
    o5 r0, o5 r1, o5 r2, o5 r3, o5 r4, hgK, ((((hb.setCell (p := ⟨gK, 0, none⟩) (Nat.le_of_lt hgK) _).setCell (p := ⟨gK, 1, none⟩) (Nat.le_of_lt hgK) _).setCell (p := ⟨gK, 2, none⟩) (Nat.le_of_lt hgK) _).setCell (p := ⟨gK, 3, none⟩) (Nat.le_of_lt hgK) _).setCell (p := ⟨gK, 4, none⟩) (Nat.le_of_lt hgK) _,
    fun b h => by have := hS b h; simp; omega, fun b h => by have := hT b h; simp; omega, fun b h => by have := hU b h; simp; omega⟩
set_option maxHeartbeats 8000000 in
set_option maxRecDepth 100000 in
theorem kernelNew_s (AR : Option Addr) (r : Nat) (w : World) : Calls Try.prog 23 #[.int .i64 2, .int .i64 2, .slice AR 0 r] w (MKN uz ez 0 true w) := by
  obtain ⟨j0, hj0, jz00, jz01, jz02⟩ := info_parts infoInt
  go_enter Try.func23, Try.ntmps23
  go_wp2_with fail
  refine (machineNew_s _).mono ?_
  rintro e w1 ⟨A, c, B, d, AE, f, S, T, U, rfl, hA, hB, hE, hS, hT, hU, hb1⟩
  have r0 : Cl w1 ⟨w.heap.size, 0, none⟩ (.slice none 0 0) := Cl.below (by constructor <;> simp [go_sem]) hb1
  have r1 : Cl w1 ⟨w.heap.size, 1, none⟩ (.slice none 0 0) := Cl.below (by constructor <;> simp [go_sem]) hb1
  have r2 : Cl w1 ⟨w.heap.size, 2, none⟩ (.slice none 0 0) := Cl.below (by constructor <;> simp [go_sem]) hb1
  have r3 : Cl w1 ⟨w.heap.size, 3, none⟩ (.int .i64 0) := Cl.below (by constructor <;> simp [go_sem]) hb1
  have r4 : Cl w1 ⟨w.heap.size, 4, none⟩ (.slice none 0 0) := Cl.below (by constructor <;> simp [go_sem]) hb1
  have hz1 := hb1.size
  simp only [World.size_alloc] at hz1
  have k0 : (w1.alloc (.cells #[.slice A 2 c, .slice B 2 d, .slice AE 2 f] 47)).drew.cell? ⟨w1.heap.size, 0, none⟩ = some (.slice A 2 c) := by simp [go_sem]
  have k1 : (w1.alloc (.cells #[.slice A 2 c, .slice B 2 d, .slice AE 2 f] 47)).drew.cell? ⟨w1.heap.size, 1, none⟩ = some (.slice B 2 d) := by simp [go_sem]
  have k2 : (w1.alloc (.cells #[.slice A 2 c, .slice B 2 d, .slice AE 2 f] 47)).drew.cell? ⟨w1.heap.size, 2, none⟩ = some (.slice AE 2 f) := by simp [go_sem]
  have lk0 := lt_of_cell' k0
  go_wp2_with fail
  go_region_law (first | (refine step_append_new (by rfl) (.tmp 18) (.tmp 19) _ (by rfl) 3 j0 (.int .i64 0) 1 8 Try.underlying22 hj0 jz00 jz01 jz02 (by rfl) (by omega) (w1.heap.size + 1 + 1) (by rfl) (by first | exact own_lit (by simp) | exact own_litd' (by simp)) AR 0 r [] (by rfl) (by rfl) (Rd.nil (B := 0)) (by simp) (by unfold maxLen; omega) (by omega) (by first | (simp; done) | (simp; omega)) ?_; intro A3 c3 w3 ho3 hS3 hA3; have hz3 := hS3.size; simp only [World.size_alloc, World.size_drew] at hz3; have k03 := hS3.cell (p := ⟨w1.heap.size, 0, none⟩) (v := .slice A 2 c) (by simp [go_sem]) (by first | (simp; done) | (simp; omega)); have k13 := hS3.cell (p := ⟨w1.heap.size, 1, none⟩) (v := .slice B 2 d) (by simp [go_sem]) (by first | (simp; done) | (simp; omega)); have k23 := hS3.cell (p := ⟨w1.heap.size, 2, none⟩) (v := .slice AE 2 f) (by simp [go_sem]) (by first | (simp; done) | (simp; omega)); have lk3 := lt_of_cell' k03; have hb3 : Below w1.heap.size w1 w3 := bel_outS hS3 (fun b hb => by rw [hb]; omega) (by (repeat' (first | (with_reducible exact Below.refl _ _) | (with_reducible refine bel_alloc ?_ ?_ _) | (with_reducible refine Below.setCell ?_ ?_ _) | (with_reducible refine below_drewN ?_ _) | (with_reducible refine Below.drew ?_) | (with_reducible exact Nat.le_refl _) | (with_reducible assumption) | omega | (simp only [World.size_alloc, World.size_setCell, World.size_drew]; omega) | (simp; omega) | (simp; done)))) (Nat.le_refl _); have kk0 : Cl w3 ⟨w1.heap.size + 1, 0, none⟩ (.slice none 0 0) := Cl.outS (by constructor <;> simp [go_sem]) hS3 (by simp); have kk0c := kk0.1; have kk0f := kk0.2; have kk1 : Cl w3 ⟨w1.heap.size + 1, 1, none⟩ (.slice none 0 0) := Cl.outS (by constructor <;> simp [go_sem]) hS3 (by simp); have kk1c := kk1.1; have kk1f := kk1.2; have kk2 : Cl w3 ⟨w1.heap.size + 1, 2, none⟩ (.slice none 0 0) := Cl.outS (by constructor <;> simp [go_sem]) hS3 (by simp); have kk2c := kk2.1; have kk2f := kk2.2; have kk3 : Cl w3 ⟨w1.heap.size + 1, 3, none⟩ (.int .i64 0) := Cl.outS (by constructor <;> simp [go_sem]) hS3 (by simp); have kk3c := kk3.1; have kk3f := kk3.2; have kk4 : Cl w3 ⟨w1.heap.size + 1, 4, none⟩ (.slice none 0 0) := Cl.outS (by constructor <;> simp [go_sem]) hS3 (by simp); have kk4c := kk4.1; have kk4f := kk4.2; have lkk := lt_of_cell' kk0c) | (refine step_append_new (by rfl) (.tmp 18) (.tmp 19) _ (by rfl) 3 j0 (.int .i64 0) 1 8 Try.underlying22 hj0 jz00 jz01 jz02 (by rfl) (by omega) (w1.heap.size + 1) (by rfl) (by first | exact own_below' (own_lit (by simp)) ((Below.refl _ _).alloc (Nat.le_refl _) _) | exact own_below' (own_lit (by simp)) (Below.drew ((Below.refl _ _).alloc (Nat.le_refl _) _))) AR 0 r [] (by rfl) (by rfl) (Rd.nil (B := 0)) (by simp) (by unfold maxLen; omega) (by omega) (by first | (simp; done) | (simp; omega)) ?_; intro A3 c3 w3 ho3 hS3 hA3; have hz3 := hS3.size; simp only [World.size_alloc, World.size_drew] at hz3; have k03 := hS3.cell (p := ⟨w1.heap.size, 0, none⟩) (v := .slice A 2 c) (by simp [go_sem]) (by first | (simp; done) | (simp; omega)); have k13 := hS3.cell (p := ⟨w1.heap.size, 1, none⟩) (v := .slice B 2 d) (by simp [go_sem]) (by first | (simp; done) | (simp; omega)); have k23 := hS3.cell (p := ⟨w1.heap.size, 2, none⟩) (v := .slice AE 2 f) (by simp [go_sem]) (by first | (simp; done) | (simp; omega)); have lk3 := lt_of_cell' k03; have hb3 : Below w1.heap.size w1 w3 := bel_outS hS3 (fun b hb => by rw [hb]; omega) (by (repeat' (first | (with_reducible exact Below.refl _ _) | (with_reducible refine bel_alloc ?_ ?_ _) | (with_reducible refine Below.setCell ?_ ?_ _) | (with_reducible refine below_drewN ?_ _) | (with_reducible refine Below.drew ?_) | (with_reducible exact Nat.le_refl _) | (with_reducible assumption) | omega | (simp only [World.size_alloc, World.size_setCell, World.size_drew]; omega) | (simp; omega) | (simp; done)))) (Nat.le_refl _); have kk0 : Cl w3 ⟨w1.heap.size + 1 + 1, 0, none⟩ (.slice none 0 0) := Cl.outS (by constructor <;> simp [go_sem]) hS3 (by simp); have kk0c := kk0.1; have kk0f := kk0.2; have kk1 : Cl w3 ⟨w1.heap.size + 1 + 1, 1, none⟩ (.slice none 0 0) := Cl.outS (by constructor <;> simp [go_sem]) hS3 (by simp); have kk1c := kk1.1; have kk1f := kk1.2; have kk2 : Cl w3 ⟨w1.heap.size + 1 + 1, 2, none⟩ (.slice none 0 0) := Cl.outS (by constructor <;> simp [go_sem]) hS3 (by simp); have kk2c := kk2.1; have kk2f := kk2.2; have kk3 : Cl w3 ⟨w1.heap.size + 1 + 1, 3, none⟩ (.int .i64 0) := Cl.outS (by constructor <;> simp [go_sem]) hS3 (by simp); have kk3c := kk3.1; have kk3f := kk3.2; have kk4 : Cl w3 ⟨w1.heap.size + 1 + 1, 4, none⟩ (.slice none 0 0) := Cl.outS (by constructor <;> simp [go_sem]) hS3 (by simp); have kk4c := kk4.1; have kk4f := kk4.2; have lkk := lt_of_cell' kk0c) | (refine step_append_new (by rfl) (.tmp 18) (.tmp 19) _ (by rfl) 3 j0 (.int .i64 0) 1 8 Try.underlying22 hj0 jz00 jz01 jz02 (by rfl) (by omega) (w1.heap.size + 1) (by rfl) (by first | exact own_lit (by simp) | exact own_litd' (by simp)) AR 0 r [] (by rfl) (by rfl) (Rd.nil (B := 0)) (by simp) (by unfold maxLen; omega) (by omega) (by first | (simp; done) | (simp; omega)) ?_; intro A3 c3 w3 ho3 hS3 hA3; have hz3 := hS3.size; simp only [World.size_alloc, World.size_drew] at hz3; have k03 := hS3.cell (p := ⟨w1.heap.size, 0, none⟩) (v := .slice A 2 c) (by simp [go_sem]) (by first | (simp; done) | (simp; omega)); have k13 := hS3.cell (p := ⟨w1.heap.size, 1, none⟩) (v := .slice B 2 d) (by simp [go_sem]) (by first | (simp; done) | (simp; omega)); have k23 := hS3.cell (p := ⟨w1.heap.size, 2, none⟩) (v := .slice AE 2 f) (by simp [go_sem]) (by first | (simp; done) | (simp; omega)); have lk3 := lt_of_cell' k03; have hb3 : Below w1.heap.size w1 w3 := bel_outS hS3 (fun b hb => by rw [hb]; omega) (by (repeat' (first | (with_reducible exact Below.refl _ _) | (with_reducible refine bel_alloc ?_ ?_ _) | (with_reducible refine Below.setCell ?_ ?_ _) | (with_reducible refine below_drewN ?_ _) | (with_reducible refine Below.drew ?_) | (with_reducible exact Nat.le_refl _) | (with_reducible assumption) | omega | (simp only [World.size_alloc, World.size_setCell, World.size_drew]; omega) | (simp; omega) | (simp; done)))) (Nat.le_refl _)) | fail)
  all_goals
    have hz13 := hb3.size
    have hSw : ∀ b, S b → w.heap.size < b ∧ b < w3.heap.size := fun b h => by have := hS b h; simp only [World.size_alloc] at this; omega
    have hTw : ∀ b, T b → w.heap.size < b ∧ b < w3.heap.size := fun b h => by have := hT b h; simp only [World.size_alloc] at this; omega
    have hUw : ∀ b, U b → w.heap.size < b ∧ b < w3.heap.size := fun b h => by have := hU b h; simp only [World.size_alloc] at this; omega
    have hS1 : ∀ b, S b → b < w1.heap.size := fun b h => (hS b h).2
    have hT1 : ∀ b, T b → b < w1.heap.size := fun b h => (hT b h).2
    have hU1 : ∀ b, U b → b < w1.heap.size := fun b h => (hU b h).2
    have hbw : Below w.heap.size w w3 := by (repeat' (first | (with_reducible exact Below.refl _ _) | (with_reducible refine bel_alloc ?_ ?_ _) | (with_reducible refine Below.setCell ?_ ?_ _) | (with_reducible refine below_drewN ?_ _) | (with_reducible refine Below.drew ?_) | (with_reducible refine bel_step hb1 ?_ ?_) | (with_reducible refine bel_step hb3 ?_ ?_) | (with_reducible exact Nat.le_refl _) | (with_reducible assumption) | omega | (simp only [World.size_alloc, World.size_setCell, World.size_drew]; omega) | (simp; omega) | (simp; done)))
    first | (have hks := KSt.set (c := c) (d := d) (f := f) (A3 := A3) (c3 := c3) (show Cl w3 ⟨w1.heap.size + 1 + 1, 0, none⟩ _ from kk0) kk1 kk2 kk3 kk4 (by omega) (fun b h => by have := hS1 b h; omega) (fun b h => by have := hT1 b h; omega) (fun b h => by have := hU1 b h; omega) (hA.below hb3) (hB.below hb3) (hE.below hb3) (r0.below hb3) (r1.below hb3) (r2.below hb3) (r3.below hb3) (r4.below hb3) hbw hSw hTw hUw; clear kk0 kk1 kk2 kk3 kk4 kk0c kk1c kk2c kk3c kk4c kk0f kk1f kk2f kk3f kk4f lkk; generalize (((((w3.setCell ⟨w1.heap.size + 1 + 1, 0, none⟩ (.slice A 2 c)).setCell ⟨w1.heap.size + 1 + 1, 1, none⟩ (.slice B 2 d)).setCell ⟨w1.heap.size + 1 + 1, 2, none⟩ (.slice AE 2 f)).setCell ⟨w1.heap.size + 1 + 1, 3, none⟩ (.int .i64 0)).setCell ⟨w1.heap.size + 1 + 1, 4, none⟩ (.slice A3 0 c3)) = w4 at hks ⊢; generalize w1.heap.size + 1 + 1 = gK at hks ⊢) | (have hks := KSt.set (c := c) (d := d) (f := f) (A3 := A3) (c3 := c3) (show Cl w3 ⟨w1.heap.size + 1, 0, none⟩ _ from kk0) kk1 kk2 kk3 kk4 (by omega) (fun b h => by have := hS1 b h; omega) (fun b h => by have := hT1 b h; omega) (fun b h => by have := hU1 b h; omega) (hA.below hb3) (hB.below hb3) (hE.below hb3) (r0.below hb3) (r1.below hb3) (r2.below hb3) (r3.below hb3) (r4.below hb3) hbw hSw hTw hUw; clear kk0 kk1 kk2 kk3 kk4 kk0c kk1c kk2c kk3c kk4c kk0f kk1f kk2f kk3f kk4f lkk; generalize (((((w3.setCell ⟨w1.heap.size + 1, 0, none⟩ (.slice A 2 c)).setCell ⟨w1.heap.size + 1, 1, none⟩ (.slice B 2 d)).setCell ⟨w1.heap.size + 1, 2, none⟩ (.slice AE 2 f)).setCell ⟨w1.heap.size + 1, 3, none⟩ (.int .i64 0)).setCell ⟨w1.heap.size + 1, 4, none⟩ (.slice A3 0 c3)) = w4 at hks ⊢; generalize w1.heap.size + 1 = gK at hks ⊢) | (have hks := KSt.new (gK := w3.heap.size) (t := 52) (c := c) (d := d) (f := f) (A3 := A3) (c3 := c3) rfl (hA.below hb3) (hB.below hb3) (hE.below hb3) (r0.below hb3) (r1.below hb3) (r2.below hb3) (r3.below hb3) (r4.below hb3) hbw hSw hTw hUw; generalize w3.alloc (.cells #[.slice A 2 c, .slice B 2 d, .slice AE 2 f, .int .i64 0, .slice A3 0 c3] 52) = w4 at hks ⊢; generalize w3.heap.size = gK at hks ⊢)
    clear hA hB hE hS hT hU hSw hTw hUw hS1 hT1 hU1 hbw hb3 hb1 r0 r1 r2 r3 r4 k0 k1 k2 k03 k13 k23 lk3 lk0 ho3 hS3 hA3 hz13 hz3 hz1
    obtain ⟨g0, g1, g2, g3, g4, hA, hB, hE, r0, r1, r2, r3, r4, hgw, hb4, hS, hT, hU⟩ := hks
    have g0c := g0.1
    have g1c := g1.1
    have g2c := g2.1
    have g3c := g3.1
    have g4c := g4.1
    have lg0 := lt_of_cell' g0c
    go_wp2_with fail
    refine (kernelOk_s _ _ _ _ _ _ _ _ _ hA.rd hB.rd hE.rd).mono ?_
    rintro e w5 ⟨rfl, hb5⟩
    clear g0c g1c g2c g3c g4c lg0
    have g0c := (g0.below hb5).1
    have g1c := (g1.below hb5).1
    have g2c := (g2.below hb5).1
    have g3c := (g3.below hb5).1
    have g4c := (g4.below hb5).1
    have lg0 := lt_of_cell' g0c
    replace hA := hA.below hb5
    replace hB := hB.below hb5
    replace hE := hE.below hb5
    obtain ⟨r0c, r0f⟩ := r0.below hb5
    obtain ⟨r1c, r1f⟩ := r1.below hb5
    obtain ⟨r2c, r2f⟩ := r2.below hb5
    obtain ⟨r3c, r3f⟩ := r3.below hb5
    obtain ⟨r4c, r4f⟩ := r4.below hb5
    have hz5 := hb5.size
    have hbw5 : Below w.heap.size w w5 := by (repeat' (first | (with_reducible exact Below.refl _ _) | (with_reducible refine bel_alloc ?_ ?_ _) | (with_reducible refine Below.setCell ?_ ?_ _) | (with_reducible refine below_drewN ?_ _) | (with_reducible refine Below.drew ?_) | (with_reducible refine bel_step hb4 ?_ ?_) | (with_reducible refine bel_step hb5 ?_ ?_) | (with_reducible exact Nat.le_refl _) | (with_reducible assumption) | omega | (simp only [World.size_alloc, World.size_setCell, World.size_drew]; omega) | (simp; omega) | (simp; done)))
    clear r0 r1 r2 r3 r4 g0 g1 g2 g3 g4
    go_wp2_with fail
    refine bodyPost_ret (v := .tuple #[.agg #[.slice A 2 c, .slice B 2 d, .slice AE 2 f, .int .i64 0, .slice A3 0 c3], .bool true]) (by simp [results, Try.results23, go_sem, r0c, r1c, r2c, r3c, r4c]) rfl ⟨A, c, B, d, AE, f, A3, c3, S, T, U, rfl, ?_, ?_, ?_, fun b h => by have := hS b h; simp; omega, fun b h => by have := hT b h; simp; omega, fun b h => by have := hU b h; simp; omega, ?_⟩
    · exact ((((hA.setOut (b := w.heap.size) _ (fun h => by have := hS _ h; omega)).setOut (b := w.heap.size) _ (fun h => by have := hS _ h; omega)).setOut (b := w.heap.size) _ (fun h => by have := hS _ h; omega)).setOut (b := w.heap.size) _ (fun h => by have := hS _ h; omega)).setOut (b := w.heap.size) _ (fun h => by have := hS _ h; omega)
    · exact ((((hB.setOut (b := w.heap.size) _ (fun h => by have := hT _ h; omega)).setOut (b := w.heap.size) _ (fun h => by have := hT _ h; omega)).setOut (b := w.heap.size) _ (fun h => by have := hT _ h; omega)).setOut (b := w.heap.size) _ (fun h => by have := hT _ h; omega)).setOut (b := w.heap.size) _ (fun h => by have := hT _ h; omega)
    · exact ((((hE.setOut (b := w.heap.size) _ (fun h => by have := hU _ h; omega)).setOut (b := w.heap.size) _ (fun h => by have := hU _ h; omega)).setOut (b := w.heap.size) _ (fun h => by have := hU _ h; omega)).setOut (b := w.heap.size) _ (fun h => by have := hU _ h; omega)).setOut (b := w.heap.size) _ (fun h => by have := hU _ h; omega)
    · exact ((((hbw5.setCell (p := ⟨w.heap.size, 0, none⟩) (Nat.le_refl _) _).setCell (p := ⟨w.heap.size, 1, none⟩) (Nat.le_refl _) _).setCell (p := ⟨w.heap.size, 2, none⟩) (Nat.le_refl _) _).setCell (p := ⟨w.heap.size, 3, none⟩) (Nat.le_refl _) _).setCell (p := ⟨w.heap.size, 4, none⟩) (Nat.le_refl _) _
end Go.Proofs.Ytljholnnhogdkaa
