/- Layouts: the addresses of the live objects, in no order; SpanAddr. -/
import Derived.Test.YtjimpmdelnnflaaSpanD
import Derived.Test.YtjimpmdelnnflaaLayD
import Derived.Test.YtjimpmdelnnflaaL2
namespace Go.Proofs.Ytjimpmdelnnflaa
open Go.ChangeShapes Go.WideShapes Go.ChangeAt Go.RowKit
set_option linter.unusedVariables false
set_option linter.unusedSimpArgs false

theorem cs_sl {C k : Int} (hC : 0 ≤ C ∧ C ≤ 3) (h0 : 0 ≤ k) (h1 : k < sl C) : 0 ≤ k * cs C ∧ k * cs C ≤ 15 := by
  rcases (by omega : C = 0 ∨ C = 1 ∨ C = 2 ∨ C = 3) with rfl | rfl | rfl | rfl <;> simp [sl, cs] at h1 ⊢ <;> omega
theorem slBd (C : Int) : 0 ≤ sl C ∧ sl C ≤ 16 := by
  unfold sl
  repeat' split
  all_goals omega
set_option maxHeartbeats 1000000 in
theorem spanAddr_i (P C B k : Int) (w : World) (h1 : spOk P C B = true) (h0 : 0 ≤ k) (hk : k < sl C) :
    Calls Try.prog 41 #[.agg #[.int .i64 P, .int .i64 C, .int .i64 B], .int .i64 k] w fun e w' => e = .returned (.int .i64 (P * 16 + k * cs C)) ∧ Below w.heap.size w w' := by
  obtain ⟨hP, hC, -⟩ := spOk_yes h1
  have hm := cs_pos hC
  have hkc := cs_sl hC h0 hk
  have hsb := slBd C
  have HO := Lib.hid (fun W => spanOk_i P C B W)
  have HCS := Lib.hid (fun W => classSize_i C W)
  have HSL := Lib.hid (fun W => slotsOf_i C W)
  have hbt : btw k 0 (sl C - 1) = true := btw_t (by omega) (by omega)
  have HB := Lib.hid (fun W => (show Calls Try.prog 67 #[.int .i64 k, .int .i64 0, .int .i64 (sl C - 1)] W fun e w' => e = .returned (.bool true) ∧ w' = W by have h := between_q k 0 (sl C - 1) W; rw [hbt] at h; exact h))
  rw [h1] at HO
  clear h1 hbt
  generalize sl C = s at *
  generalize cs C = m at *
  go_enter Try.func41, Try.ntmps41
  go_wp2_with fail
  refine (HO.out _).mono ?_
  rintro e w1 ⟨rfl, hb1⟩
  have q0 : w1.cell? ⟨w.heap.size, 0, none⟩ = some (.int .i64 P) := keep hb1 (by simp [go_sem])
  have q1 : w1.cell? ⟨w.heap.size, 1, none⟩ = some (.int .i64 C) := keep hb1 (by simp [go_sem])
  have q2 : w1.cell? ⟨w.heap.size, 2, none⟩ = some (.int .i64 B) := keep hb1 (by simp [go_sem])
  go_wp2_with (first | (go_at_call 39; refine (HSL.out _).mono ?_; rintro e w1 ⟨rfl, rfl⟩) | (go_at_call 67; refine (HB.out _).mono ?_; rintro e w1 ⟨rfl, rfl⟩))
  go_quiet ((go_at_call 65; exact Calls.quiet_of_same (HCS.out _)))
  go_wp2
  go_ret
  exact ⟨rfl, by (repeat' (first | (with_reducible exact Below.refl _ _) | (with_reducible refine bel_alloc ?_ ?_ _) | (with_reducible refine Below.setCell ?_ ?_ _) | (with_reducible refine below_drewN ?_ _) | (with_reducible refine Below.drew ?_) | (with_reducible refine bel_step hb1 ?_ ?_) | (with_reducible exact Nat.le_refl _) | (with_reducible assumption) | omega | (simp only [World.size_alloc, World.size_setCell, World.size_drew]; omega) | (simp; omega) | (simp; done)))⟩

def spI (x : T3) (j : Nat) : List Int := ((List.range j).filter (fun i : Nat => hasS x.2.2 (i : Int))).map (fun i : Nat => x.1 * 16 + (i : Int) * cs x.2.1)
def spL (x : T3) : List Int := spI x (sl x.2.1).toNat
def lsA (xs : List T3) (k : Nat) : List Int := (xs.take k).flatMap spL
def lsB (ys : List T3) (k : Nat) : List Int := (ys.take k).map (fun y => y.1 * 16)
theorem spI_succ (x : T3) (j : Nat) : spI x (j + 1) = if hasS x.2.2 (j : Int) = true then spI x j ++ [x.1 * 16 + (j : Int) * cs x.2.1] else spI x j := by
  unfold spI
  rw [List.range_succ, List.filter_append]
  by_cases h : hasS x.2.2 (j : Int) = true <;> simp [h]
theorem spI_len (x : T3) : ∀ j, (spI x j).length ≤ j := fun j => by
  have := List.length_filter_le (fun i : Nat => hasS x.2.2 (i : Int)) (List.range j)
  simpa [spI] using this
theorem lsA_succ {xs : List T3} {k : Nat} (h : k < xs.length) : lsA xs (k + 1) = lsA xs k ++ spL xs[k] := by
  rw [lsA, List.take_succ_eq_append_getElem h, List.flatMap_append]
  simp [lsA]
theorem lsA_len (xs : List T3) : ∀ k, (lsA xs k).length ≤ 16 * k
  | 0 => by simp [lsA]
  | k + 1 => by
    have ih := lsA_len xs k
    by_cases h : k < xs.length
    · rw [lsA_succ h, List.length_append]
      have h2 := spI_len xs[k] (sl xs[k].2.1).toNat
      have h3 := slBd xs[k].2.1
      simp only [spL]
      omega
    · have e : lsA xs (k + 1) = lsA xs k := by simp [lsA, List.take_of_length_le (show xs.length ≤ k by omega), List.take_of_length_le (show xs.length ≤ k + 1 by omega)]
      rw [e]
      omega
theorem lsB_succ {ys : List T3} {k : Nat} (h : k < ys.length) : lsB ys (k + 1) = lsB ys k ++ [ys[k].1 * 16] := by
  rw [lsB, List.take_succ_eq_append_getElem h, List.map_append]
  rfl
theorem lsB_len (ys : List T3) (k : Nat) : (lsB ys k).length ≤ k := by
  simp [lsB]
  omega
def srt (l : List Int) : List Int := l.mergeSort fun x y => decide (x ≤ y)
def liveS (xs ys : List T3) : List Int := if layOk xs ys then srt (lsA xs xs.length ++ lsB ys ys.length) else []
def Som (A : Option Addr) : Prop := ∃ b, A = some ⟨b, 0, none⟩
theorem Som.app {A A' : Option Addr} {lo : Nat} (h : Som A) (hA : A' = A ∨ ∃ b, A' = some ⟨b, 0, none⟩ ∧ lo ≤ b) : Som A' := by
  rcases hA with rfl | ⟨b, rfl, -⟩
  · exact h
  · exact ⟨b, rfl⟩
theorem not_at_app {A A' : Option Addr} {lo t : Nat} (h : ¬ At A t) (ht : t < lo) (hA : A' = A ∨ ∃ b, A' = some ⟨b, 0, none⟩ ∧ lo ≤ b) : ¬ At A' t := by
  rcases hA with rfl | ⟨b, rfl, hb⟩
  · exact h
  · rintro ⟨o, ho⟩
    injection ho with ho
    injection ho with ho
    omega
end Go.Proofs.Ytjimpmdelnnflaa
