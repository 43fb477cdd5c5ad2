/- The laws' functions on Quar. -/
import Derived.Test.YteafpfmndjeanaaStaleM
namespace Go.Proofs.Yteafpfmndjeanaa
open Go.ChangeShapes Go.WideShapes Go.ChangeAt Go.RowKit
set_option linter.unusedVariables false

theorem szQuar_any (r : Int) (A : Option Addr) (n c : Nat) (left : Int) (w : World) (h0 : 0 ≤ left) (h1 : left ≤ 1048576) (hn : n ≤ maxLen) :
    Calls Try.prog 15 #[.agg #[.int .i64 r, .slice A n c], .int .i64 left] w (Sized left ((n : Int) ≤ left) w) := by
  go_enter Try.func15, Try.ntmps15
  go_wp2_with fail
  refine (szStaleS_any _ _ _ _ _ h0 h1 hn).mono ?_
  rintro e w1 ⟨q, rfl, hq1, hq2, hb⟩
  by_cases h : q < 0
  · go_wp2
    go_ret
    exact ⟨_, rfl, by omega, by omega, by (repeat' (first | (with_reducible exact Below.refl _ _) | (with_reducible refine bel_alloc ?_ ?_ _) | (with_reducible refine Below.setCell ?_ ?_ _) | (with_reducible refine below_drewN ?_ _) | (with_reducible refine Below.drew ?_) | (with_reducible refine bel_step hb ?_ ?_) | (with_reducible exact Nat.le_refl _) | (with_reducible assumption) | omega | (simp only [World.size_alloc, World.size_setCell, World.size_drew]; omega) | (simp; omega) | (simp; done)))⟩
  · go_wp2
    go_ret
    exact ⟨_, rfl, by omega, fun h => hq2 (by omega), by (repeat' (first | (with_reducible exact Below.refl _ _) | (with_reducible refine bel_alloc ?_ ?_ _) | (with_reducible refine Below.setCell ?_ ?_ _) | (with_reducible refine below_drewN ?_ _) | (with_reducible refine Below.drew ?_) | (with_reducible refine bel_step hb ?_ ?_) | (with_reducible exact Nat.le_refl _) | (with_reducible assumption) | omega | (simp only [World.size_alloc, World.size_setCell, World.size_drew]; omega) | (simp; omega) | (simp; done)))⟩

def MadeQuar (r : Int) (xs : List (Int × Int × Int)) (w : World) (e : Ending) (w' : World) : Prop :=
  ∃ A c S, e = .returned (.agg #[.int .i64 r, .slice A xs.length c]) ∧ (xs.length ≤ c ∧ c ≤ maxLen) ∧ Wr w' S A (tv xs) ∧ New S w w' ∧ Below w.heap.size w w'
set_option maxHeartbeats 1000000 in
theorem toQuar_w (r : Int) (A : Option Addr) (c : Nat) (xs : List (Int × Int × Int)) (w : World) {B : Nat} (hr : Rd w B A (tv xs)) (hn : xs.length ≤ 1048576) :
    Calls Try.prog 17 #[.agg #[.int .i64 r, .slice A xs.length c]] w (MadeQuar r xs w) := by
  go_enter Try.func17, Try.ntmps17
  go_wp2_with fail
  refine (toStaleS_any _ _ _ _ (hr.lt.below (by (repeat' (first | (with_reducible exact Below.refl _ _) | (with_reducible refine bel_alloc ?_ ?_ _) | (with_reducible refine Below.setCell ?_ ?_ _) | (with_reducible refine below_drewN ?_ _) | (with_reducible refine Below.drew ?_) | (with_reducible exact Nat.le_refl _) | (with_reducible assumption) | omega | (simp only [World.size_alloc, World.size_setCell, World.size_drew]; omega) | (simp; omega) | (simp; done))))) hn).mono ?_
  rintro e w1 ⟨A', c', rfl, ho, hb⟩
  have b0 : w1.cell? ⟨w.heap.size + 1, 0, none⟩ = some (.int .i64 0) := keep hb (by simp [go_sem])
  have b1 : w1.cell? ⟨w.heap.size + 1, 1, none⟩ = some (.slice none 0 0) := keep hb (by simp [go_sem])
  have bf0 : w1.frozen? ⟨w.heap.size + 1, 0, none⟩ = false := keepf hb (by simp [go_sem]) (by simp [go_sem])
  have bf1 : w1.frozen? ⟨w.heap.size + 1, 1, none⟩ = false := keepf hb (by simp [go_sem]) (by simp [go_sem])
  have d0 : w1.cell? ⟨w.heap.size + 1 + 1, 0, none⟩ = some (.int .i64 r) := keep hb (by simp [go_sem])
  have d1 : w1.cell? ⟨w.heap.size + 1 + 1, 1, none⟩ = some (.slice none 0 0) := keep hb (by simp [go_sem])
  have df0 : w1.frozen? ⟨w.heap.size + 1 + 1, 0, none⟩ = false := keepf hb (by simp [go_sem]) (by simp [go_sem])
  have df1 : w1.frozen? ⟨w.heap.size + 1 + 1, 1, none⟩ = false := keepf hb (by simp [go_sem]) (by simp [go_sem])
  go_wp2
  obtain ⟨S, hW, hN⟩ := ho.wr.new (w.heap.size + 3) (by intro b hb; simp at hb; omega)
  have hcap := ho.cap
  refine bodyPost_ret (v := .agg #[.int .i64 r, .slice A' xs.length c']) (by simp [results, Try.results17, go_sem, b0, b1, d0, d1]) rfl ⟨A', c', S, rfl, hcap, by (repeat' (first | (with_reducible exact hW) | (with_reducible refine Wr.setOut ?_ _ (fun h => by have := hN _ h; first | omega | (simp at this; omega))) | (with_reducible refine Wr.alloc ?_ _) | (with_reducible refine Wr.drewN ?_ _) | (with_reducible refine Wr.drew ?_))), New.mk hN (by omega) (by simp), ?_⟩
  · (repeat' (first | (with_reducible exact Below.refl _ _) | (with_reducible refine bel_alloc ?_ ?_ _) | (with_reducible refine Below.setCell ?_ ?_ _) | (with_reducible refine below_drewN ?_ _) | (with_reducible refine Below.drew ?_) | (with_reducible refine bel_step hb ?_ ?_) | (with_reducible exact Nat.le_refl _) | (with_reducible assumption) | omega | (simp only [World.size_alloc, World.size_setCell, World.size_drew]; omega) | (simp; omega) | (simp; done)))
set_option maxHeartbeats 1000000 in
theorem eqQuar_same (r : Int) (A B : Option Addr) (c d : Nat) (xs : List (Int × Int × Int)) (w : World) {B1 B2 : Nat} (hx : Rd w B1 A (tv xs)) (hy : Rd w B2 B (tv xs)) (hn : xs.length ≤ 1048576) :
    Calls Try.prog 12 #[.agg #[.int .i64 r, .slice A xs.length c], .agg #[.int .i64 r, .slice B xs.length d]] w fun e w' => e = .returned (.bool true) ∧ Below w.heap.size w w' := by
  go_enter Try.func12, Try.ntmps12
  go_wp2_with fail
  refine (eqStaleS_same _ _ _ _ _ _ ((hx.alloc _).alloc _) ((hy.alloc _).alloc _) hn).mono ?_
  rintro e w1 ⟨rfl, hb⟩
  go_wp2
  go_ret
  exact ⟨rfl, by (repeat' (first | (with_reducible exact Below.refl _ _) | (with_reducible refine bel_alloc ?_ ?_ _) | (with_reducible refine Below.setCell ?_ ?_ _) | (with_reducible refine below_drewN ?_ _) | (with_reducible refine Below.drew ?_) | (with_reducible refine bel_step hb ?_ ?_) | (with_reducible exact Nat.le_refl _) | (with_reducible assumption) | omega | (simp only [World.size_alloc, World.size_setCell, World.size_drew]; omega) | (simp; omega) | (simp; done)))⟩
set_option maxHeartbeats 1000000 in
theorem markQuar_any (r : Int) (A : Option Addr) (c : Nat) (xs : List (Int × Int × Int)) (k : Int) (w : World) {S : Nat → Prop} (ho : Wr w S A (tv xs)) (hn : xs.length ≤ 1048576) (hk0 : 0 ≤ k) (hk1 : k ≤ 1099511627776) :
    Calls Try.prog 13 #[.agg #[.int .i64 r, .slice A xs.length c], .int .i64 k] w fun e w' => e = .returned (.int .i64 (k + 3 * xs.length)) ∧ Wr w' S A (tv (m3 k xs.length)) ∧ OutS S w w' := by
  go_enter Try.func13, Try.ntmps13
  go_wp2_with fail
  refine (markStaleS_any _ _ _ _ _ (ho.alloc _) (by omega) hk0 (by omega)).mono ?_
  rintro e w1 ⟨rfl, ho1, hout⟩
  go_wp2
  go_ret
  exact ⟨rfl, ho1, (OutS.of_below ((Below.refl _ _).alloc (Nat.le_refl _) _)).trans hout⟩
set_option maxHeartbeats 1000000 in
theorem heldQuar_b (r : Int) (A : Option Addr) (c n : Nat) (k : Int) (w : World) {B : Nat} (hr : Rd w B A (tv (m3 k n))) (hn : n ≤ 1048576) (hk0 : 0 ≤ k) (hk1 : k ≤ 1099511627776) :
    Calls Try.prog 14 #[.agg #[.int .i64 r, .slice A n c], .int .i64 k] w fun e w' => e = .returned (.int .i64 (k + 3 * n)) ∧ Below w.heap.size w w' := by
  go_enter Try.func14, Try.ntmps14
  go_wp2_with fail
  refine (heldStaleS_any _ _ _ _ _ (hr.alloc _) (by omega) hk0 (by omega)).mono ?_
  rintro e w1 ⟨rfl, rfl⟩
  go_wp2
  go_ret
  exact ⟨rfl, by (repeat' (first | (with_reducible exact Below.refl _ _) | (with_reducible refine bel_alloc ?_ ?_ _) | (with_reducible refine Below.setCell ?_ ?_ _) | (with_reducible refine below_drewN ?_ _) | (with_reducible refine Below.drew ?_) | (with_reducible exact Nat.le_refl _) | (with_reducible assumption) | omega | (simp only [World.size_alloc, World.size_setCell, World.size_drew]; omega) | (simp; omega) | (simp; done)))⟩
end Go.Proofs.Yteafpfmndjeanaa
