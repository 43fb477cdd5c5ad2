/- The laws' functions on Tags. -/
import Derived.Test.YtlohnaodoniajaaIntS
namespace Go.Proofs.Ytlohnaodoniajaa
open Go.ChangeShapes Go.WideShapes Go.ChangeAt Go.RowKit
set_option linter.unusedVariables false

/-- The post of a size count: where it is not below 0, `P` holds. -/
def Sized (left : Int) (P : Prop) (w : World) (e : Ending) (w' : World) : Prop :=
  ∃ r : Int, e = .returned (.int .i64 r) ∧ r ≤ left ∧ (0 ≤ r → P) ∧ Below w.heap.size w w'

theorem szTags_any (A : Option Addr) (n c : Nat) (left : Int) (w : World) (h0 : 0 ≤ left) (h1 : left ≤ 1048576) (hn : n ≤ maxLen) :
    Calls Try.prog 14 #[.agg #[.slice A n c], .int .i64 left] w (Sized left ((n : Int) ≤ left) w) := by
  by_cases h : left - (n : Int) < 0
  all_goals
    first
    | have hs : szN left n = -1 := if_pos h
    | have hs : szN left n = left - n := if_neg h
    have hq := fun W => szIntS_any A n c left W h0 h1 hn
    rw [hs] at hq
    clear hs
    have HQ := Lib.hid hq
    clear hq
    go_enter Try.func14, Try.ntmps14
    go_wp2_with fail
    refine (HQ.out _).mono ?_
    rintro e w1 ⟨rfl, rfl⟩
    go_wp2
    go_ret
    exact ⟨_, rfl, by omega, by omega, by (repeat' (first | (with_reducible exact Below.refl _ _) | (with_reducible refine bel_alloc ?_ ?_ _) | (with_reducible refine Below.setCell ?_ ?_ _) | (with_reducible refine below_drewN ?_ _) | (with_reducible refine Below.drew ?_) | (with_reducible exact Nat.le_refl _) | (with_reducible assumption) | omega | (simp only [World.size_alloc, World.size_setCell, World.size_drew]; omega) | (simp; omega) | (simp; done)))⟩

def MadeTags (xs : List Int) (w : World) (e : Ending) (w' : World) : Prop :=
  ∃ A c, e = .returned (.agg #[.slice A xs.length c]) ∧ OwI w' w.heap.size w'.heap.size A c xs ∧ Below w.heap.size w w'
set_option maxHeartbeats 1000000 in
theorem toTags_any (A : Option Addr) (c : Nat) (xs : List Int) (w : World) {B : Nat} (hr : Rd w B A (iv xs)) (hn : xs.length ≤ 1048576) :
    Calls Try.prog 16 #[.agg #[.slice A xs.length c]] w (MadeTags xs w) := by
  go_enter Try.func16, Try.ntmps16
  go_wp2_with fail
  refine (toIntS_any _ _ _ _ (((hr.alloc _).alloc _).alloc _) hn).mono ?_
  rintro e w1 ⟨A', c', rfl, ho, hb⟩
  have b0 : w1.cell? ⟨w.heap.size + 1, 0, none⟩ = some (.slice none 0 0) := keep hb (by simp [go_sem])
  have bf0 : w1.frozen? ⟨w.heap.size + 1, 0, none⟩ = false := keepf hb (by simp [go_sem]) (by simp [go_sem])
  have d0 : w1.cell? ⟨w.heap.size + 1 + 1, 0, none⟩ = some (.slice none 0 0) := keep hb (by simp [go_sem])
  have df0 : w1.frozen? ⟨w.heap.size + 1 + 1, 0, none⟩ = false := keepf hb (by simp [go_sem]) (by simp [go_sem])
  go_wp2
  refine bodyPost_ret (v := .agg #[.slice A' xs.length c']) (by simp [results, Try.results16, go_sem, b0, d0]) rfl ⟨A', c', rfl, ?_, ?_⟩
  · simp only [World.size_setCell]
    exact ((ho.set _ (.inl (by simp))).set _ (.inl (by simp))).mono (by simp; omega) (Nat.le_refl _)
  · (repeat' (first | (with_reducible exact Below.refl _ _) | (with_reducible refine bel_alloc ?_ ?_ _) | (with_reducible refine Below.setCell ?_ ?_ _) | (with_reducible refine below_drewN ?_ _) | (with_reducible refine Below.drew ?_) | (with_reducible refine bel_step hb ?_ ?_) | (with_reducible exact Nat.le_refl _) | (with_reducible assumption) | omega | (simp only [World.size_alloc, World.size_setCell, World.size_drew]; omega) | (simp; omega) | (simp; done)))
set_option maxHeartbeats 1000000 in
theorem eqTags_same (A B : Option Addr) (c d : Nat) (xs : List Int) (w : World) {B1 B2 : Nat} (hx : Rd w B1 A (iv xs)) (hy : Rd w B2 B (iv xs)) (hn : xs.length ≤ 1048576) :
    Calls Try.prog 11 #[.agg #[.slice A xs.length c], .agg #[.slice B xs.length d]] w fun e w' => e = .returned (.bool true) ∧ Below w.heap.size w w' := by
  have hq := fun W (h1 : Rd W B1 A (iv xs)) (h2 : Rd W B2 B (iv xs)) => eqIntS_any A B c d xs xs W h1 h2 (by omega) (by omega)
  simp only [decide_true] at hq
  have HQ := Lib.hid hq
  clear hq
  go_enter Try.func11, Try.ntmps11
  go_wp2_with fail
  refine (HQ.out _ ((hx.alloc _).alloc _) ((hy.alloc _).alloc _)).mono ?_
  rintro e w1 ⟨rfl, m, rfl⟩
  go_wp2
  go_ret
  exact ⟨rfl, by (repeat' (first | (with_reducible exact Below.refl _ _) | (with_reducible refine bel_alloc ?_ ?_ _) | (with_reducible refine Below.setCell ?_ ?_ _) | (with_reducible refine below_drewN ?_ _) | (with_reducible refine Below.drew ?_) | (with_reducible exact Nat.le_refl _) | (with_reducible assumption) | omega | (simp only [World.size_alloc, World.size_setCell, World.size_drew]; omega) | (simp; omega) | (simp; done)))⟩
set_option maxHeartbeats 1000000 in
theorem markTags_any (A : Option Addr) (c : Nat) (xs : List Int) (k : Int) (w : World) {lo hi : Nat} (ho : OwI w lo hi A c xs) (hn : xs.length ≤ 1048576) (hk0 : 0 ≤ k) (hk1 : k ≤ 1099511627776) :
    Calls Try.prog 12 #[.agg #[.slice A xs.length c], .int .i64 k] w fun e w' => e = .returned (.int .i64 (k + xs.length)) ∧ Ow w' lo hi 3 1 A xs.length c (iv (marks k xs.length)) ∧ Out lo hi w w' := by
  go_enter Try.func12, Try.ntmps12
  go_wp2_with fail
  refine (markIntS_any _ _ _ _ _ (ho.alloc _) (by omega) hk0 (by omega)).mono ?_
  rintro e w1 ⟨rfl, ho1, hout⟩
  go_wp2
  go_ret
  exact ⟨rfl, ho1, (Out.of_below ((Below.refl _ _).alloc (Nat.le_refl _) _)).trans hout⟩
set_option maxHeartbeats 1000000 in
theorem heldTags_any (A : Option Addr) (c n : Nat) (k : Int) (w : World) {B : Nat} (hr : Rd w B A (iv (marks k n))) (hn : n ≤ 1048576) (hk0 : 0 ≤ k) (hk1 : k ≤ 1099511627776) :
    Calls Try.prog 13 #[.agg #[.slice A n c], .int .i64 k] w fun e w' => e = .returned (.int .i64 (k + n)) ∧ Below w.heap.size w w' := by
  go_enter Try.func13, Try.ntmps13
  go_wp2_with fail
  refine (heldIntS_any _ _ _ _ _ (hr.alloc _) (by omega) hk0 (by omega)).mono ?_
  rintro e w1 ⟨rfl, rfl⟩
  go_wp2
  go_ret
  exact ⟨rfl, by (repeat' (first | (with_reducible exact Below.refl _ _) | (with_reducible refine bel_alloc ?_ ?_ _) | (with_reducible refine Below.setCell ?_ ?_ _) | (with_reducible refine below_drewN ?_ _) | (with_reducible refine Below.drew ?_) | (with_reducible exact Nat.le_refl _) | (with_reducible assumption) | omega | (simp only [World.size_alloc, World.size_setCell, World.size_drew]; omega) | (simp; omega) | (simp; done)))⟩
end Go.Proofs.Ytlohnaodoniajaa
