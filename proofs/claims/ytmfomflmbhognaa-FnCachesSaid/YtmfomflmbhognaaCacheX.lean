/- Plain laws of valid caches. -/
import Derived.Test.YtmfomflmbhognaaCacheE
import Derived.Test.YtmfomflmbhognaaCacheS
import Derived.Test.YtmfomflmbhognaaSameL
namespace Go.Proofs.Ytmfomflmbhognaa
open Go.ChangeShapes Go.WideShapes Go.ChangeAt Go.RowKit
set_option linter.unusedVariables false

theorem flatten_set_sub {xss : List (List Int)} {κ : Nat} {q : List Int} (hk : κ < xss.length) (h : q.Sublist xss[κ]) : (xss.set κ q).flatten.Sublist xss.flatten := by
  induction xss generalizing κ with
  | nil => simp at hk
  | cons x l ih =>
    cases κ with
    | zero =>
      simp only [List.set_cons_zero, List.flatten_cons]
      simp only [List.getElem_cons_zero] at h
      exact h.append (List.Sublist.refl _)
    | succ κ =>
      simp only [List.set_cons_succ, List.flatten_cons]
      simp only [List.getElem_cons_succ] at h
      exact (List.Sublist.refl _).append (ih (by simpa using hk) h)
theorem cOk_parts {xss : List (List Int)} : cOkB xss = true ↔ xss.length = 4 ∧ (∀ k (hk : k < xss.length), rowOk k xss[k] = true) ∧ xss.flatten.Nodup := by
  simp only [cOkB, Bool.and_eq_true, decide_eq_true_eq, List.all_eq_true]
  constructor
  · rintro ⟨⟨h1, h2⟩, h3⟩
    exact ⟨h1, fun k hk => by have := h2 k (List.mem_range.2 hk); rwa [getD_at hk] at this, h3⟩
  · rintro ⟨h1, h2, h3⟩
    exact ⟨⟨h1, fun k hk => by have hk := List.mem_range.1 hk; rw [getD_at hk]; exact h2 k hk⟩, h3⟩
theorem rowOk_sub {k : Nat} {p q : List Int} (h : rowOk k q = true) (hs : p.Sublist q) : rowOk k p = true := by
  simp only [rowOk, Bool.and_eq_true, decide_eq_true_eq, List.all_eq_true] at *
  exact ⟨Nat.le_trans hs.length_le h.1, fun x hx => h.2 x (hs.subset hx)⟩
theorem cOk_sub {xss : List (List Int)} {κ : Nat} {q : List Int} (h : cOkB xss = true) (hk : κ < xss.length) (hs : q.Sublist xss[κ]) : cOkB (xss.set κ q) = true := by
  obtain ⟨h1, h2, h3⟩ := cOk_parts.1 h
  refine cOk_parts.2 ⟨by rw [List.length_set]; exact h1, fun k hk2 => ?_, h3.sublist (flatten_set_sub hk hs)⟩
  rw [List.getElem_set]
  split
  · rename_i e
    subst e
    exact rowOk_sub (h2 _ hk) hs
  · exact h2 k (by rw [List.length_set] at hk2; exact hk2)
end Go.Proofs.Ytmfomflmbhognaa
