/- Plain laws of valid mails. -/
import Derived.Test.YtggigndkamkclaaMailC
namespace Go.Proofs.Ytggigndkamkclaa
open Go.ChangeShapes Go.WideShapes Go.ChangeAt Go.RowKit
set_option linter.unusedVariables false
set_option linter.unusedSimpArgs false

theorem mOk_parts {xss : List (List Po)} {yss : List (List Int)} : mOkB xss yss = true ↔ btw xss.length 1 4 = true ∧ yss.length = xss.length ∧ (∀ k (hk : k < xss.length) (hk2 : k < yss.length), mRow xss.length xss[k] yss[k] = true) ∧ tot xss + tot yss ≤ 30 := by
  simp only [mOkB, Bool.and_eq_true, decide_eq_true_eq, List.all_eq_true]
  constructor
  · rintro ⟨⟨⟨h1, h2⟩, h3⟩, h4⟩
    exact ⟨h1, h2, fun k hk hk2 => by have := h3 k (List.mem_range.2 hk); rwa [getD_at hk, getD_at hk2] at this, h4⟩
  · rintro ⟨h1, h2, h3, h4⟩
    exact ⟨⟨⟨h1, h2⟩, fun k hk => by have hk := List.mem_range.1 hk; rw [getD_at hk, getD_at (by omega)]; exact h3 k hk (by omega)⟩, h4⟩
theorem tot_set {α : Type} {xss : List (List α)} {κ : Nat} {q : List α} (hk : κ < xss.length) : tot (xss.set κ q) + xss[κ].length = tot xss + q.length := by
  induction xss generalizing κ with
  | nil => simp at hk
  | cons x l ih =>
    cases κ with
    | zero => simp [tot]; omega
    | succ κ =>
      have := ih (κ := κ) (by simpa using hk)
      simp only [tot, List.set_cons_succ, List.map_cons, List.sum_cons, List.getElem_cons_succ] at *
      omega
theorem mRow_sub {n : Nat} {p q : List Po} {ys : List Int} (h : mRow n q ys = true) (hs : p.Sublist q) : mRow n p ys = true := by
  simp only [mRow, Bool.and_eq_true, List.all_eq_true] at *
  exact ⟨fun x hx => h.1 x (hs.subset hx), h.2⟩
theorem mRow_in {n : Nat} {xs : List Po} {ys zs : List Int} (h : mRow n xs ys = true) (hz : ∀ z ∈ zs, 0 ≤ z) : mRow n xs zs = true := by
  simp only [mRow, Bool.and_eq_true, List.all_eq_true, decide_eq_true_eq] at *
  exact ⟨h.1, hz⟩
theorem mRow_ys {n : Nat} {xs : List Po} {ys : List Int} (h : mRow n xs ys = true) : ∀ z ∈ ys, 0 ≤ z := by
  simp only [mRow, Bool.and_eq_true, List.all_eq_true, decide_eq_true_eq] at h
  exact h.2
theorem deliver_ok {xss : List (List Po)} {yss : List (List Int)} {κ τ : Nat} {a : Int} (h : mOkB xss yss = true) (hk : κ < xss.length) (ht : τ < yss.length) (h0 : (xss[κ])[0]? = some ((τ : Int), a)) :
    mOkB (xss.set κ (xss[κ].drop 1)) (yss.set τ (yss[τ] ++ [a])) = true := by
  obtain ⟨h1, h2, h3, h4⟩ := mOk_parts.1 h
  have hl : 0 < xss[κ].length := by
    rcases Nat.eq_zero_or_pos xss[κ].length with e | e
    · rw [List.eq_nil_of_length_eq_zero e] at h0; simp at h0
    · exact e
  have hmem : ((τ : Int), a) ∈ xss[κ] := by
    rw [List.getElem?_eq_getElem hl] at h0
    injection h0 with h0
    rw [← h0]
    exact List.getElem_mem hl
  have ha : 0 ≤ a := by
    have h5 := h3 κ hk (by omega)
    simp only [mRow, Bool.and_eq_true, List.all_eq_true] at h5
    have h6 := h5.1 _ hmem
    simp only [pOk, Bool.and_eq_true, decide_eq_true_eq] at h6
    exact h6.2
  have e1 := tot_set (q := xss[κ].drop 1) hk
  have e2 := tot_set (q := yss[τ] ++ [a]) ht
  refine mOk_parts.2 ⟨by rw [List.length_set]; exact h1, by rw [List.length_set, List.length_set]; exact h2, fun k hk1 hk2 => ?_, by rw [List.length_drop] at e1; rw [List.length_append, List.length_singleton] at e2; omega⟩
  rw [List.length_set] at hk1 hk2 ⊢
  have hr := h3 k hk1 hk2
  have hx : mRow xss.length ((xss.set κ (xss[κ].drop 1))[k]'(by rw [List.length_set]; exact hk1)) yss[k] = true := by
    rw [List.getElem_set]
    split
    · rename_i e
      subst e
      exact mRow_sub hr (List.drop_sublist _ _)
    · exact hr
  refine mRow_in hx fun z hz => ?_
  rw [List.getElem_set] at hz
  split at hz
  · rename_i e
    subst e
    rcases List.mem_append.1 hz with hz | hz
    · exact mRow_ys hr z hz
    · simp at hz; rw [hz]; exact ha
  · exact mRow_ys hr z hz
theorem collect_ok {xss : List (List Po)} {yss : List (List Int)} {κ : Nat} (h : mOkB xss yss = true) (ht : κ < yss.length) : mOkB xss (yss.set κ []) = true := by
  obtain ⟨h1, h2, h3, h4⟩ := mOk_parts.1 h
  have e2 := tot_set (q := ([] : List Int)) ht
  refine mOk_parts.2 ⟨h1, by rw [List.length_set]; exact h2, fun k hk1 hk2 => ?_, by rw [List.length_nil] at e2; omega⟩
  rw [List.length_set] at hk2
  refine mRow_in (h3 k hk1 hk2) fun z hz => ?_
  rw [List.getElem_set] at hz
  split at hz
  · simp at hz
  · exact mRow_ys (h3 k hk1 hk2) z hz
theorem mOk_Rows {xss : List (List Po)} {yss : List (List Int)} (h : mOkB xss yss = true) : Rows xss ∧ Rows yss := by
  obtain ⟨h1, h2, h3, h4⟩ := mOk_parts.1 h
  have h5 := of_btw h1
  refine ⟨⟨by omega, fun l hl => ?_⟩, ⟨by omega, fun l hl => ?_⟩⟩
  · obtain ⟨i, hi, rfl⟩ := List.getElem_of_mem hl
    have := tot_row hi; omega
  · obtain ⟨i, hi, rfl⟩ := List.getElem_of_mem hl
    have := tot_row hi; omega
theorem has_th {xss : List (List Po)} {yss : List (List Int)} (h : mOkB xss yss = true) {κ : Nat} (hk : κ < xss.length) : hasTh xss yss (κ : Int) = true := by
  simp only [hasTh, h, Bool.and_true]
  exact btw_t (by omega) (by omega)
theorem new_ok {n : Nat} (h1 : 1 ≤ n) (h2 : n ≤ 4) : mOkB (List.replicate n []) (List.replicate n []) = true := by
  rcases (by omega : n = 1 ∨ n = 2 ∨ n = 3 ∨ n = 4) with rfl | rfl | rfl | rfl <;> decide +kernel
end Go.Proofs.Ytggigndkamkclaa
