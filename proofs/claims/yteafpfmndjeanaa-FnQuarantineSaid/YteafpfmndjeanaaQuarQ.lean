/- A valid quarantine has at most 500 objects. -/
import Derived.Test.YteafpfmndjeanaaQuarP
namespace Go.Proofs.Yteafpfmndjeanaa
theorem cs_pos {c : Int} (h : 0 ≤ c ∧ c ≤ 3) : 1 ≤ cs c := by
  rcases (by omega : c = 0 ∨ c = 1 ∨ c = 2 ∨ c = 3) with h | h | h | h <;> rw [h] <;> decide
theorem qsum_len : ∀ {xs : List St}, (∀ x ∈ xs, 1 ≤ cs x.2.1) → (xs.length : Int) ≤ qsum xs
  | [], _ => by simp [qsum]
  | x :: l, h => by
    have h1 := qsum_len (xs := l) fun y hy => h y (by simp [hy])
    have h2 := h x (by simp)
    simp only [qsum, List.map_cons, List.sum_cons, List.length_cons] at h1 ⊢
    omega
theorem qOk_len {r : Int} {xs : List St} (h : qOkB r xs = true) : xs.length ≤ 500 := by
  have h1 := qsum_len (xs := xs) fun x hx => by
    have := qOk_one h hx
    simp only [stOne, Bool.and_eq_true] at this
    exact cs_pos (of_btw this.1.1)
  simp only [qOkB, Bool.and_eq_true, decide_eq_true_eq] at h
  have h2 := (of_btw h.1.2).2
  omega
end Go.Proofs.Yteafpfmndjeanaa
