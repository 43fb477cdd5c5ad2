/- Where a valid mail's posts go. -/
import Derived.Test.YtggigndkamkclaaMailJ
namespace Go.Proofs.Ytggigndkamkclaa
theorem deliver_to {xss : List (List Po)} {yss : List (List Int)} {κ : Nat} (h : hasTh xss yss κ = true) (hk : κ < xss.length) (h0 : 0 < (xss[κ]).length) :
    ∃ (τ : Nat) (a : Int), (xss[κ])[0]? = some ((τ : Int), a) ∧ τ < yss.length := by
  simp only [hasTh, Bool.and_eq_true, mOkB, decide_eq_true_eq, List.all_eq_true] at h
  obtain ⟨_, ⟨⟨h1, h2⟩, h3⟩, _⟩ := h
  have h4 := h3 κ (List.mem_range.2 hk)
  rw [getD_at hk] at h4
  simp only [mRow, Bool.and_eq_true, List.all_eq_true] at h4
  have h5 := h4.1 _ (List.getElem_mem h0)
  simp only [pOk, Bool.and_eq_true] at h5
  have h6 := of_btw h5.1
  refine ⟨(xss[κ][0]).1.toNat, (xss[κ][0]).2, ?_, by omega⟩
  rw [List.getElem?_eq_getElem h0, Int.toNat_of_nonneg h6.1]
end Go.Proofs.Ytggigndkamkclaa
