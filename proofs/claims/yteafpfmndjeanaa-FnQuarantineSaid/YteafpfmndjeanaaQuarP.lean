/- What a valid quarantine's elements are. -/
import Derived.Test.YteafpfmndjeanaaQuarC
namespace Go.Proofs.Yteafpfmndjeanaa
theorem qOk_one {r : Int} {xs : List St} (h : qOkB r xs = true) {x : St} (hx : x ∈ xs) : stOne x = true := by
  obtain ⟨k, hk, rfl⟩ := List.getElem_of_mem hx
  simp only [qOkB, Bool.and_eq_true, List.all_eq_true] at h
  have := h.1.1 k (List.mem_range.2 hk)
  rw [okQ_at hk] at this
  simp only [stOk, Bool.and_eq_true] at this
  exact this.1.1
theorem qOk_pos {r : Int} {xs : List St} (h : qOkB r xs = true) {x : St} (hx : x ∈ xs) : 0 ≤ x.2.2 := by
  have := qOk_one h hx
  simp only [stOne, Bool.and_eq_true, decide_eq_true_eq] at this
  exact this.2
theorem qOk_room {r : Int} {xs : List St} (h : qOkB r xs = true) : 0 ≤ r := by
  simp only [qOkB, Bool.and_eq_true] at h
  exact (of_btw h.1.2).1
end Go.Proofs.Yteafpfmndjeanaa
