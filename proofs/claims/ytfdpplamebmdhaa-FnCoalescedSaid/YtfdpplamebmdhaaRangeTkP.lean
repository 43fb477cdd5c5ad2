/- RangeTake: what it computes. -/
import Derived.Test.YtfdpplamebmdhaaRangeQ
namespace Go.Proofs.Ytfdpplamebmdhaa
set_option linter.unusedVariables false
set_option linter.unusedSimpArgs false
/-- The best range among the first k. -/
def bst (n : Int) (xs : List Rg) : Nat → Int
  | 0 => -1
  | k + 1 => if n ≤ (xs.getD k (0, 0)).2 ∧ (bst n xs k < 0 ∨ (xs.getD k (0, 0)).2 < (xs.getD (bst n xs k).toNat (0, 0)).2) then (k : Int) else bst n xs k
theorem bst_bd (n : Int) (xs : List Rg) : ∀ k, -1 ≤ bst n xs k ∧ bst n xs k < k
  | 0 => by simp [bst]
  | k + 1 => by
    have h := bst_bd n xs k
    unfold bst
    split <;> omega
theorem bst_ge (n : Int) (xs : List Rg) : ∀ k, 0 ≤ bst n xs k → n ≤ (xs.getD (bst n xs k).toNat (0, 0)).2
  | 0, h => by simp [bst] at h
  | k + 1, h => by
    unfold bst at h ⊢
    split
    · rename_i hc
      simpa using hc.1
    · rename_i hc
      rw [if_neg hc] at h
      exact bst_ge n xs k h
theorem getD_at {xs : List Rg} {k : Nat} (h : k < xs.length) : xs.getD k (0, 0) = xs[k] := by
  simp [List.getD_eq_getElem?_getD, List.getElem?_eq_getElem h]
theorem bst_up {n : Int} {xs : List Rg} {k : Nat} (h : k < xs.length) (hn : n ≤ xs[k].2) (hb : bst n xs k < 0 ∨ xs[k].2 < (xs.getD (bst n xs k).toNat (0, 0)).2) : bst n xs (k + 1) = k := by
  unfold bst
  rw [getD_at h, if_pos ⟨hn, hb⟩]
theorem bst_no {n : Int} {xs : List Rg} {k : Nat} (h : k < xs.length) (hn : ¬ (n ≤ xs[k].2 ∧ (bst n xs k < 0 ∨ xs[k].2 < (xs.getD (bst n xs k).toNat (0, 0)).2))) : bst n xs (k + 1) = bst n xs k := by
  conv => lhs; unfold bst
  rw [getD_at h, if_neg hn]
theorem pv_set2 : ∀ (xs : List Rg) (b : Nat) (x y : Int), pv (xs.set b (x, y)) = ((pv xs).set (b * 2) (.int .i64 x)).set (b * 2 + 1) (.int .i64 y)
  | [], b, x, y => by simp [pv, p2]
  | r :: l, 0, x, y => by simp [pv, p2]
  | r :: l, b + 1, x, y => by
    have h := pv_set2 l b x y
    have e1 : (b + 1) * 2 = b * 2 + 1 + 1 := by omega
    rw [List.set_cons_succ, e1]
    simp only [pv, p2, List.flatMap_cons, List.cons_append, List.nil_append, List.set_cons_succ] at h ⊢
    rw [h]
theorem pv_tk (xs : List Rg) (b : Nat) : pv (xs.take b) = (pv xs).take (b * 2) := by
  induction xs generalizing b with
  | nil => simp [pv, p2]
  | cons r l ih =>
    cases b with
    | zero => simp [pv, p2]
    | succ b =>
      have h := ih b
      have e1 : (b + 1) * 2 = b * 2 + 1 + 1 := by omega
      rw [e1]
      simp only [pv, p2, List.take_succ_cons, List.flatMap_cons, List.cons_append, List.nil_append] at h ⊢
      rw [h]
theorem pv_dr (xs : List Rg) (b : Nat) : pv (xs.drop b) = (pv xs).drop (b * 2) := by
  induction xs generalizing b with
  | nil => simp [pv, p2]
  | cons r l ih =>
    cases b with
    | zero => simp
    | succ b =>
      have h := ih b
      have e1 : (b + 1) * 2 = b * 2 + 1 + 1 := by omega
      rw [e1]
      simp only [pv, p2, List.drop_succ_cons, List.flatMap_cons, List.cons_append, List.nil_append] at h ⊢
      rw [h]
/-- What is left. -/
def tkL (n : Int) (xs : List Rg) (b : Nat) : List Rg := if (xs.getD b (0, 0)).2 = n then xs.take b ++ xs.drop (b + 1) else xs.set b ((xs.getD b (0, 0)).1 + n, (xs.getD b (0, 0)).2 - n)
theorem tkL_len (n : Int) (xs : List Rg) (b : Nat) : (tkL n xs b).length ≤ xs.length := by
  unfold tkL
  split
  · simp; omega
  · simp
end Go.Proofs.Ytfdpplamebmdhaa
