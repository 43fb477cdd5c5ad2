/- What FnGuards needs, in plain words; Waste of the reference; FirstBroken and GuardsOk on a machine of two frames. -/
import Derived.Test.YtljholnnhogdkaaGSet
import Derived.Test.YtljholnnhogdkaaFnGuard
namespace Go.Proofs.Ytljholnnhogdkaa
open Go.ChangeShapes Go.WideShapes Go.ChangeAt Go.RowKit
set_option linter.unusedVariables false
set_option linter.unusedSimpArgs false

theorem sz_all {s t : Int} (h : s = 3 ∨ s = 5 ∨ s = 6 ∨ s = 7) (ht : t = 0 ∨ t = 1) : ∃ N : Nat, 1 ≤ N ∧ N ≤ 3 ∧ (N : Int) = cs (kOf s : Nat) - s ∧ gList (cs (kOf s : Nat) * t) s = gl (cs (kOf s : Nat) * t) s N ∧ btw s 1 8 = true ∧ 0 ≤ cs (kOf s : Nat) * t ∧ cs (kOf s : Nat) * t + s + N ≤ 16 := by
  rcases h with rfl | rfl | rfl | rfl <;> rcases ht with rfl | rfl
  · exact ⟨1, by decide, by decide, by decide, by decide, by decide, by decide, by decide⟩
  · exact ⟨1, by decide, by decide, by decide, by decide, by decide, by decide, by decide⟩
  · exact ⟨3, by decide, by decide, by decide, by decide, by decide, by decide, by decide⟩
  · exact ⟨3, by decide, by decide, by decide, by decide, by decide, by decide, by decide⟩
  · exact ⟨2, by decide, by decide, by decide, by decide, by decide, by decide, by decide⟩
  · exact ⟨2, by decide, by decide, by decide, by decide, by decide, by decide, by decide⟩
  · exact ⟨1, by decide, by decide, by decide, by decide, by decide, by decide, by decide⟩
  · exact ⟨1, by decide, by decide, by decide, by decide, by decide, by decide, by decide⟩
theorem gl_in {a s : Int} {N : Nat} (ha : 0 ≤ a) (hs : 0 ≤ s) (h16 : a + s + N ≤ 16) : ∀ x ∈ gl a s N, 0 ≤ x ∧ x < 16 := by
  intro x hx
  simp only [gl, List.mem_map, List.mem_range] at hx
  obtain ⟨i, hi, rfl⟩ := hx
  omega
theorem gl_inj {a s : Int} {N : Nat} : ∀ i j (hi : i < (gl a s N).length) (hj : j < (gl a s N).length), (gl a s N)[i] = (gl a s N)[j] → i = j := by
  intro i j hi hj h
  rw [gl_at, gl_at] at h
  omega
theorem plain_ok {row : List Int} (hR : RowOk row) {a s : Int} {N : Nat} (hgl : gList a s = gl a s N) (ha : 0 ≤ a) (hs : 0 ≤ s) (h16 : a + s + N ≤ 16) (hg : Grd row (gList a s)) : firstB (m2 row) us0 es0 (gList a s) = -1 := by
  rw [hgl] at hg ⊢
  exact Grd.ok hR (gl_in ha hs h16) hg
theorem plain_broken {row : List Int} (hR : RowOk row) {a s : Int} {N : Nat} (hgl : gList a s = gl a s N) (ha : 0 ≤ a) (hs : 0 ≤ s) (h16 : a + s + N ≤ 16) (hg : Grd row (gList a s)) {k : Nat} (hk : k < N) {v : Int} (h0 : 0 ≤ v) (h7 : v < 700) :
    firstB (m2 (row.set (a + (s + (k : Nat))).toNat v)) us0 es0 (gList a s) = a + (s + (k : Nat)) := by
  rw [hgl] at hg ⊢
  have hk' : k < (gl a s N).length := by rw [gl_len]; exact hk
  have h := Grd.broken hR (gl_in ha hs h16) gl_inj hg hk' (v := v) (btw_t h0 (by omega)) (by omega)
  rw [gl_at] at h
  exact h
theorem fb2_i {row : List Int} (hR : RowOk row) {a s x : Int} (hfb : firstB (m2 row) us0 es0 (gList a s) = x) (A : Option Addr) (c : Nat) (B : Option Addr) (d : Nat) (AE : Option Addr) (f : Nat) (w : World) {B1 B2 B3 : Nat} (hr : Rd2 iv w B1 A (m2 row)) (hs : Rd w B2 B (bl us0)) (ht : Rd w B3 AE (pv es0)) :
    Calls Try.prog 28 #[.agg #[.slice A 2 c, .slice B 2 d, .slice AE 2 f], .int .i64 a, .int .i64 s] w fun e w' => e = .returned (.int .i64 x) ∧ Below w.heap.size w w' := by
  subst hfb
  exact firstBroken_i A c B d AE f (m2 row) us0 es0 a s w hr hs ht (rows2 hR)
theorem go2_i {row : List Int} (hR : RowOk row) {a s x : Int} (hfb : firstB (m2 row) us0 es0 (gList a s) = x) (v : Bool) (hv : decide (x = -1) = v) (A : Option Addr) (c : Nat) (B : Option Addr) (d : Nat) (AE : Option Addr) (f : Nat) (w : World) {B1 B2 B3 : Nat} (hr : Rd2 iv w B1 A (m2 row)) (hs : Rd w B2 B (bl us0)) (ht : Rd w B3 AE (pv es0)) :
    Calls Try.prog 21 #[.agg #[.slice A 2 c, .slice B 2 d, .slice AE 2 f], .int .i64 a, .int .i64 s] w fun e w' => e = .returned (.bool v) ∧ Below w.heap.size w w' := by
  subst hfb
  exact guardsOk_i A c B d AE f (m2 row) us0 es0 a s w hr hs ht (rows2 hR) v hv
theorem set5 {w : World} {g : Nat} {u0 u1 u2 : Value} (v0 v1 v2 v3 v4 : Value) (g0 : Cl w ⟨g, 0, none⟩ u0) (g1 : Cl w ⟨g, 1, none⟩ u1) (g2 : Cl w ⟨g, 2, none⟩ u2) :
    OutS (fun b => b = g) w (((((w.setCell ⟨g, 0, none⟩ v0).setCell ⟨g, 1, none⟩ v1).setCell ⟨g, 2, none⟩ v2).setCell ⟨g, 3, none⟩ v3).setCell ⟨g, 4, none⟩ v4) ∧
    (((((w.setCell ⟨g, 0, none⟩ v0).setCell ⟨g, 1, none⟩ v1).setCell ⟨g, 2, none⟩ v2).setCell ⟨g, 3, none⟩ v3).setCell ⟨g, 4, none⟩ v4).cell? ⟨g, 0, none⟩ = some v0 ∧
    (((((w.setCell ⟨g, 0, none⟩ v0).setCell ⟨g, 1, none⟩ v1).setCell ⟨g, 2, none⟩ v2).setCell ⟨g, 3, none⟩ v3).setCell ⟨g, 4, none⟩ v4).cell? ⟨g, 1, none⟩ = some v1 ∧
    (((((w.setCell ⟨g, 0, none⟩ v0).setCell ⟨g, 1, none⟩ v1).setCell ⟨g, 2, none⟩ v2).setCell ⟨g, 3, none⟩ v3).setCell ⟨g, 4, none⟩ v4).cell? ⟨g, 2, none⟩ = some v2 :=
  have o : ∀ (w : World) (o : Nat) (v : Value), OutS (fun b => b = g) w (w.setCell ⟨g, o, none⟩ v) := fun w o v => OutS.set (S := fun b => b = g) w v rfl
  ⟨((((o w 0 v0).trans (o _ 1 v1)).trans (o _ 2 v2)).trans (o _ 3 v3)).trans (o _ 4 v4),
    (((((g0.same _).other _ (by simp)).other _ (by simp)).other _ (by simp)).other _ (by simp)).1,
    (((((g1.other _ (by simp)).same _).other _ (by simp)).other _ (by simp)).other _ (by simp)).1,
    (((((g2.other _ (by simp)).other _ (by simp)).same _).other _ (by simp)).other _ (by simp)).1⟩
theorem set3_out {w : World} {g : Nat} (v0 v1 v2 : Value) : OutS (fun b => b = g) w (((w.setCell ⟨g, 0, none⟩ v0).setCell ⟨g, 1, none⟩ v1).setCell ⟨g, 2, none⟩ v2) :=
  have o : ∀ (w : World) (o : Nat) (v : Value), OutS (fun b => b = g) w (w.setCell ⟨g, o, none⟩ v) := fun w o v => OutS.set (S := fun b => b = g) w v rfl
  ((o w 0 v0).trans (o _ 1 v1)).trans (o _ 2 v2)
theorem set3_keep {w : World} {g : Nat} {v0 v1 v2 : Value} {p : Addr} {v : Value} (h : w.cell? p = some v) (hne : p.block ≠ g) : (((w.setCell ⟨g, 0, none⟩ v0).setCell ⟨g, 1, none⟩ v1).setCell ⟨g, 2, none⟩ v2).cell? p = some v :=
  (set3_out (g := g) v0 v1 v2).cell h hne
theorem set3_at {w : World} {g : Nat} {u0 u1 u2 : Value} (v0 v1 v2 : Value) (g0 : Cl w ⟨g, 0, none⟩ u0) (g1 : Cl w ⟨g, 1, none⟩ u1) (g2 : Cl w ⟨g, 2, none⟩ u2) :
    (((w.setCell ⟨g, 0, none⟩ v0).setCell ⟨g, 1, none⟩ v1).setCell ⟨g, 2, none⟩ v2).cell? ⟨g, 0, none⟩ = some v0 ∧
    (((w.setCell ⟨g, 0, none⟩ v0).setCell ⟨g, 1, none⟩ v1).setCell ⟨g, 2, none⟩ v2).cell? ⟨g, 1, none⟩ = some v1 ∧
    (((w.setCell ⟨g, 0, none⟩ v0).setCell ⟨g, 1, none⟩ v1).setCell ⟨g, 2, none⟩ v2).cell? ⟨g, 2, none⟩ = some v2 :=
  ⟨(((g0.same _).other _ (by simp)).other _ (by simp)).1, (((g1.other _ (by simp)).same _).other _ (by simp)).1, (((g2.other _ (by simp)).other _ (by simp)).same _).1⟩
theorem waste_s (s : Int) (hs : btw s 1 8 = true) (w : World) : Calls Try.prog 26 #[.int .i64 s] w fun e w' => e = .returned (.int .i64 (cs (kOf s : Nat) - s)) ∧ w' = w := by
  have hs8 := of_btw hs
  have HK := Lib.hid (fun W => classOf_s s W)
  have hk : kC s = (kOf s : Nat) := by simp [kC, hs]
  rw [hk] at HK
  have hcsb := cs_bd (kOf s : Nat)
  have HCS := Lib.hid (fun W => classSize_s (kOf s : Nat) W)
  generalize kOf s = kk at *
  generalize cs (kk : Int) = m at *
  clear hk hs
  go_enter Try.func26, Try.ntmps26
  go_wp2_with (first | (go_at_call 15; refine (HK.out _).mono ?_; rintro e w ⟨rfl, rfl⟩) | (go_at_call 16; refine (HCS.out _).mono ?_; rintro e w ⟨rfl, rfl⟩))
  go_ret
  exact ⟨rfl, rfl⟩
end Go.Proofs.Ytljholnnhogdkaa
