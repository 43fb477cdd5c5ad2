/- Lists of ranges, the plain laws: the widest range, the sum, is a page there. -/
import Derived.Test.YtfdpplamebmdhaaRangeW
import Derived.Test.YtfdpplamebmdhaaRangeT
namespace Go.Proofs.Ytfdpplamebmdhaa
open Go.RowKit
set_option linter.unusedVariables false
set_option linter.unusedSimpArgs false

theorem bst_neg {n : Int} {xs : List Rg} : ∀ k, k ≤ xs.length → bst n xs k < 0 → ∀ j (hj : j < xs.length), j < k → xs[j].2 < n
  | 0, _, _, j, hj, h => by omega
  | k + 1, hk, hb, j, hj, h => by
    have hkl : k < xs.length := by omega
    by_cases hc : n ≤ xs[k].2 ∧ (bst n xs k < 0 ∨ xs[k].2 < (xs.getD (bst n xs k).toNat (0, 0)).2)
    · rw [bst_up hkl hc.1 hc.2] at hb
      omega
    · rw [bst_no hkl hc] at hb
      by_cases e : j = k
      · subst e
        have : ¬ n ≤ xs[j].2 := fun h5 => hc ⟨h5, .inl hb⟩
        omega
      · exact bst_neg k (by omega) hb j hj (by omega)
theorem bst_min {n : Int} {xs : List Rg} : ∀ k, k ≤ xs.length → ∀ b : Nat, bst n xs k = (b : Int) → ∀ j (hj : j < xs.length), j < k → n ≤ xs[j].2 → (xs.getD b (0, 0)).2 ≤ xs[j].2
  | 0, _, b, hb, j, hj, h, _ => by omega
  | k + 1, hk, b, hb, j, hj, h, hn => by
    have hkl : k < xs.length := by omega
    by_cases hc : n ≤ xs[k].2 ∧ (bst n xs k < 0 ∨ xs[k].2 < (xs.getD (bst n xs k).toNat (0, 0)).2)
    · rw [bst_up hkl hc.1 hc.2] at hb
      obtain rfl : k = b := by omega
      rw [getD_at hkl]
      by_cases e : j = k
      · subst e; omega
      · rcases hc.2 with h1 | h1
        · have := bst_neg k (by omega) h1 j hj (by omega)
          omega
        · have hbb := bst_bd n xs k
          by_cases hneg : bst n xs k < 0
          · have := bst_neg k (by omega) hneg j hj (by omega)
            omega
          · have := bst_min k (by omega) (bst n xs k).toNat (by omega) j hj (by omega) hn
            omega
    · rw [bst_no hkl hc] at hb
      by_cases e : j = k
      · subst e
        have h5 : ¬ (bst n xs j < 0 ∨ xs[j].2 < (xs.getD (bst n xs j).toNat (0, 0)).2) := fun h5 => hc ⟨hn, h5⟩
        rw [hb] at h5
        have h6 : ((b : Int)).toNat = b := by omega
        rw [h6] at h5
        omega
      · exact bst_min k (by omega) b hb j hj (by omega) hn
theorem wid_lt {n : Int} {xs : List Rg} (hn : 1 ≤ n) (h : ∀ j (hj : j < xs.length), xs[j].2 < n) : ∀ k, k ≤ xs.length → wid xs k < n
  | 0, _ => by simp [wid]; omega
  | k + 1, hk => by
    have h1 := wid_lt hn h k (by omega)
    have h2 := h k (by omega)
    rw [wid_succ (by omega)]
    unfold maxI
    split <;> omega
theorem sum_eq {pages : Int} {xs : List Rg} (h : rOkB pages xs = true) : ∀ k, k ≤ xs.length → sumLen xs k = tot (xs.take k) ∧ 0 ≤ tot (xs.take k) ∧ tot (xs.take k) ≤ 32 * k
  | 0, _ => by simp [sumLen, tot]
  | k + 1, hk => by
    obtain ⟨h1, h2, h3⟩ := sum_eq h k (by omega)
    have hkl : k < xs.length := by omega
    have h5 := rInB_yes (okAt_in hkl ((rOkB_facts h).1 k hkl))
    have h6 := (rOkB_facts h).2
    have h33 := rOk_len h
    have e : tot (xs.take (k + 1)) = tot (xs.take k) + xs[k].2 := by
      rw [List.take_succ_eq_append_getElem hkl]
      unfold tot
      rw [List.map_append, List.sum_append]
      simp
    rw [sumLen_succ hkl, h1, e, IntWalk.wrap64_in _ (by omega)]
    omega
theorem sum_tot {pages : Int} {xs : List Rg} (h : rOkB pages xs = true) : sumLen xs xs.length = tot xs ∧ 0 ≤ tot xs ∧ tot xs ≤ 2000 := by
  have := sum_eq h xs.length (Nat.le_refl _)
  have := rOk_len h
  simp only [List.take_length] at *
  omega
theorem has_cov {pages : Int} {xs : List Rg} (h : rOkB pages xs = true) (q : Int) : hasR xs q = true ↔ cov xs q := by
  have hw : ∀ x ∈ xs, wrap64 (x.1 + x.2) = x.1 + x.2 := by
    intro x hx
    obtain ⟨j, hj, rfl⟩ := List.getElem_of_mem hx
    have h5 := rInB_yes (okAt_in hj ((rOkB_facts h).1 j hj))
    have h6 := (rOkB_facts h).2
    exact IntWalk.wrap64_in _ (by omega)
  simp only [hasR, List.any_eq_true, cov]
  constructor
  · rintro ⟨x, hx, h1⟩
    simp only [inR, Bool.and_eq_true, decide_eq_true_eq] at h1
    rw [hw x hx] at h1
    exact ⟨x, hx, h1⟩
  · rintro ⟨x, hx, h1⟩
    refine ⟨x, hx, ?_⟩
    simp only [inR, Bool.and_eq_true, decide_eq_true_eq]
    rw [hw x hx]
    exact h1
theorem has_no {pages : Int} {xs : List Rg} (h : rOkB pages xs = true) {q : Int} (hq : ¬ cov xs q) : hasR xs q = false := by
  cases e : hasR xs q
  · rfl
  · exact absurd ((has_cov h q).1 e) hq
theorem srt_at : ∀ {l : List Rg} {lo : Int} {i j : Nat} (h : srt lo l) (hij : i < j) (hj : j < l.length), (l[i]'(by omega)).1 + (l[i]'(by omega)).2 < l[j].1
  | [], lo, i, j, h, hij, hj => by simp at hj
  | x :: l, lo, 0, j + 1, h, hij, hj => by
    have hj' : j < l.length := by simpa using hj
    have := srt_mem h.2.2 l[j] (List.getElem_mem hj')
    simp
    omega
  | x :: l, lo, i + 1, j + 1, h, hij, hj => by simpa using srt_at (l := l) (i := i) (j := j) h.2.2 (by omega) (by simpa using hj)
end Go.Proofs.Ytfdpplamebmdhaa
