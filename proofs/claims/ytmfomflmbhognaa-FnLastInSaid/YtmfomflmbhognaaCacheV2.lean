/- FnLastIn: what the program's functions answer on a cache of one class. -/
import Derived.Test.YtmfomflmbhognaaCacheV
import Derived.Test.YtmfomflmbhognaaCacheN
import Derived.Test.YtmfomflmbhognaaCacheJi
import Derived.Test.YtmfomflmbhognaaCacheKiy
import Derived.Test.YtmfomflmbhognaaCacheKin
import Derived.Test.YtmfomflmbhognaaCacheE
namespace Go.Proofs.Ytmfomflmbhognaa
open Go.ChangeShapes Go.WideShapes Go.ChangeAt Go.RowKit
set_option linter.unusedVariables false

def OneP (κ i : Nat) (ok : Bool) (w : World) (e : Ending) (w' : World) : Prop :=
  ∃ A c S, e = .returned (.tuple #[.agg #[.slice A 4 c], .bool ok]) ∧ Wr2 iv w' S A (one κ i) ∧ New S w w' ∧ Below w.heap.size w w'
def OneT (κ i : Nat) (w : World) (e : Ending) (w' : World) : Prop :=
  ∃ A c S, e = .returned (.tuple #[.agg #[.slice A 4 c], .int .i64 (8 * (i : Nat) : Int), .bool true]) ∧ Wr2 iv w' S A (one κ i) ∧ New S w w' ∧ Below w.heap.size w w'
theorem one_new (w : World) : Calls Try.prog 14 #[] w fun e w' => ∃ A c S, e = .returned (.agg #[.slice A 4 c]) ∧ Wr2 iv w' S A (List.replicate 4 []) ∧ New S w w' ∧ Below w.heap.size w w' :=
  (cacheNew_i w).mono fun e w' ⟨A, c, S, he, _, h1, h2, h3⟩ => ⟨A, c, S, by simpa using he, h1, h2, h3⟩
theorem one_zero (κ : Nat) : one κ 0 = List.replicate 4 [] := by
  unfold one ups
  simp only [List.range_zero, List.map_nil]
  apply List.ext_getElem?
  intro k
  rw [List.getElem?_set]
  split
  · rename_i e
    subst e
    split
    · rename_i h
      rw [List.getElem?_replicate]
      simp at h
      simp [h]
    · rename_i h
      rw [List.getElem?_eq_none (by simpa using h)]
  · rfl
theorem one_put {κ i : Nat} (hκ : κ < 4) (hi : i < 8) (A : Option Addr) (c : Nat) (W : World) {B : Nat} (hr : Rd2 iv W B A (one κ i)) :
    Calls Try.prog 15 #[.agg #[.slice A 4 c], .int .i64 κ, .int .i64 (8 * (i : Nat) : Int)] W (OneP κ (i + 1) true W) := by
  have hl : κ < (one κ i).length := by rw [one_len]; exact hκ
  have h := cachePut_i_yes A c (one κ i) κ (ups i) (8 * (i : Nat) : Int) (one κ (i + 1)) W hr (one_rows κ i (by omega)) ((one_ok κ hκ i (by omega)).2) hl (by rw [one_at hκ]) (by rw [← ups_succ, one_set hκ]) ((one_ok κ hκ (i + 1) (by omega)).1)
  rw [one_len] at h
  exact h.mono fun e w' ⟨A, c, S, he, h1, h2, h3⟩ => ⟨A, c, S, by rw [one_len] at he; exact he, h1, h2, h3⟩
theorem one_full {κ : Nat} (hκ : κ < 4) (A : Option Addr) (c : Nat) (W : World) {B : Nat} (hr : Rd2 iv W B A (one κ 8)) :
    Calls Try.prog 15 #[.agg #[.slice A 4 c], .int .i64 κ, .int .i64 64] W (OneP κ 8 false W) := by
  have hl : κ < (one κ 8).length := by rw [one_len]; exact hκ
  have h := cachePut_i_no2 A c (one κ 8) κ (ups 8) 64 (one κ 9) W hr (one_rows κ 8 (by omega)) ((one_ok κ hκ 8 (by omega)).2) hl (by rw [one_at hκ]) (by rw [show ups 8 ++ [64] = ups 9 from (ups_succ 8).symm, one_set hκ]) (one_nine κ hκ)
  rw [one_len] at h
  exact h.mono fun e w' ⟨A, c, S, he, h1, h2, h3⟩ => ⟨A, c, S, by rw [one_len] at he; exact he, h1, h2, h3⟩
theorem ups_len (i : Nat) : (ups i).length = i := by simp [ups]
theorem one_take {κ i : Nat} (hκ : κ < 4) (hi : i < 8) (A : Option Addr) (c : Nat) (W : World) {B : Nat} (hr : Rd2 iv W B A (one κ (i + 1))) :
    Calls Try.prog 16 #[.agg #[.slice A 4 c], .int .i64 κ] W (OneT κ i W) := by
  have hl : κ < (one κ (i + 1)).length := by rw [one_len]; exact hκ
  have h := cacheTake_i_yes A c (one κ (i + 1)) κ i (ups (i + 1)) (8 * (i : Nat) : Int) W hr (one_rows κ (i + 1) (by omega)) ((one_ok κ hκ (i + 1) (by omega)).2) hl (by rw [one_at hκ]) (ups_len _) (by rw [ups_succ, List.getElem?_append_right (by rw [ups_len]; omega)]; simp [ups_len])
  have e1 : (ups (i + 1)).take i = ups i := by
    rw [ups_succ, List.take_append_of_le_length (by rw [ups_len]; omega), List.take_of_length_le (by rw [ups_len]; omega)]
  rw [one_len, e1, one_set hκ] at h
  exact h.mono fun e w' ⟨A, c, S, he, h1, h2, h3⟩ => ⟨A, c, S, by rw [one_len] at he; exact he, h1, h2, h3⟩
theorem one_cells {κ : Nat} (hκ : κ < 4) (A : Option Addr) (c : Nat) (W : World) {B : Nat} (hr : Rd2 iv W B A (one κ 0)) :
    Calls Try.prog 17 #[.agg #[.slice A 4 c]] W fun e w' => e = .returned (.int .i64 0) ∧ Below W.heap.size W w' := by
  have h := cacheCells_i A c (one κ 0) W hr (one_rows κ 0 (by omega))
  have e : cCells (one κ 0) = 0 := by rw [one_zero]; decide +kernel
  rw [one_len, e] at h
  exact h
end Go.Proofs.Ytmfomflmbhognaa
