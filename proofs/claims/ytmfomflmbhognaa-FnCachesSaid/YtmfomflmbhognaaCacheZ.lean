/- Plain laws of putting into a valid cache. -/
import Derived.Test.YtmfomflmbhognaaCacheX
import Derived.Test.YtmfomflmbhognaaCacheB
namespace Go.Proofs.Ytmfomflmbhognaa
open Go.ChangeShapes Go.WideShapes Go.ChangeAt Go.RowKit
set_option linter.unusedVariables false
set_option linter.unusedSimpArgs false

theorem mem_flat {xss : List (List Int)} {x : Int} : x ∈ xss.flatten ↔ ∃ l ∈ xss, x ∈ l := List.mem_flatten
theorem hasC_iff {xss : List (List Int)} {a : Int} : hasC xss a = true ↔ a ∈ xss.flatten := by
  simp only [hasC, List.any_eq_true, mem_flat]
  constructor
  · rintro ⟨l, h1, h2⟩
    exact ⟨l, h1, hasI_iff.1 h2⟩
  · rintro ⟨l, h1, h2⟩
    exact ⟨l, h1, hasI_iff.2 h2⟩
theorem flat_split {xss : List (List Int)} {κ : Nat} (hk : κ < xss.length) (q : List Int) : (xss.set κ q).flatten = (xss.take κ).flatten ++ (q ++ (xss.drop (κ + 1)).flatten) := by
  rw [List.set_eq_take_append_cons_drop, if_pos hk, List.flatten_append, List.flatten_cons]
theorem flat_self {xss : List (List Int)} {κ : Nat} (hk : κ < xss.length) : xss.flatten = (xss.take κ).flatten ++ (xss[κ] ++ (xss.drop (κ + 1)).flatten) := by
  rw [← flat_split hk]
  rw [List.set_getElem_self]
theorem put_no {xss : List (List Int)} {κ : Nat} {a : Int} (h : cOkB xss = true) (hk : κ < xss.length) (ha : addrOk κ a = true) (hno : cOkB (xss.set κ (xss[κ] ++ [a])) = false) : hasC xss a = true ∨ xss[κ].length = 8 := by
  by_cases h8 : xss[κ].length = 8
  · exact .inr h8
  left
  rw [hasC_iff]
  rcases Classical.em (a ∈ xss.flatten) with hm | hm
  · exact hm
  exfalso
  obtain ⟨h1, h2, h3⟩ := cOk_parts.1 h
  have hr := h2 κ hk
  simp only [rowOk, Bool.and_eq_true, decide_eq_true_eq, List.all_eq_true] at hr
  have hyes : cOkB (xss.set κ (xss[κ] ++ [a])) = true := by
    refine cOk_parts.2 ⟨by rw [List.length_set]; exact h1, fun k hk2 => ?_, ?_⟩
    · rw [List.getElem_set]
      split
      · rename_i e
        subst e
        simp only [rowOk, Bool.and_eq_true, decide_eq_true_eq, List.all_eq_true]
        refine ⟨by simp; omega, fun x hx => ?_⟩
        rcases List.mem_append.1 hx with hx | hx
        · exact hr.2 x hx
        · simp at hx; rw [hx]; exact ha
      · exact h2 k (by rw [List.length_set] at hk2; exact hk2)
    · rw [flat_split hk]
      rw [flat_self hk] at h3 hm
      have hp : ((xss.take κ).flatten ++ ((xss[κ] ++ [a]) ++ (xss.drop (κ + 1)).flatten)).Perm (a :: ((xss.take κ).flatten ++ (xss[κ] ++ (xss.drop (κ + 1)).flatten))) := by
        rw [List.append_assoc, List.singleton_append]
        refine ((List.perm_middle).append_left _).trans ?_
        exact List.perm_middle
      exact hp.nodup_iff.2 (List.nodup_cons.2 ⟨hm, h3⟩)
  rw [hyes] at hno
  cases hno
theorem put_twice {ys : List (List Int)} {κ : Nat} {q : List Int} {a : Int} (hk : κ < ys.length) (hq : ys[κ] = q ++ [a]) : cOkB (ys.set κ (ys[κ] ++ [a])) = false := by
  cases h : cOkB (ys.set κ (ys[κ] ++ [a])) with
  | false => rfl
  | true =>
    obtain ⟨_, _, h3⟩ := cOk_parts.1 h
    rw [flat_split hk, hq] at h3
    have h4 := (List.nodup_append.1 (List.nodup_append.1 h3).2.1).1
    have h5 := (List.nodup_append.1 h4).2.2 a (by simp) a (by simp)
    exact absurd rfl h5
theorem put_has {xss : List (List Int)} {κ : Nat} {a : Int} (hk : κ < xss.length) : hasC (xss.set κ (xss[κ] ++ [a])) a = true := by
  rw [hasC_iff, flat_split hk]
  simp
theorem put_back {xss : List (List Int)} {κ : Nat} {a : Int} (hk : κ < xss.length) : (xss.set κ (xss[κ] ++ [a])).set κ ((xss[κ] ++ [a]).take xss[κ].length) = xss := by
  rw [List.set_set, List.take_left, List.set_getElem_self]
theorem put_cells {xss : List (List Int)} {κ : Nat} {a : Int} (h : cOkB xss = true) (hk : κ < xss.length) (hok : cOkB (xss.set κ (xss[κ] ++ [a])) = true) : cCells (xss.set κ (xss[κ] ++ [a])) = cCells xss + cs (κ : Int) := by
  unfold cCells
  rw [if_pos h, if_pos hok]
  have h4 := (cOk_rows h).1
  match xss, h4 with
  | [r0, r1, r2, r3], _ =>
    simp only [List.length_cons, List.length_nil] at hk
    rcases (by omega : κ = 0 ∨ κ = 1 ∨ κ = 2 ∨ κ = 3) with rfl | rfl | rfl | rfl <;> simp [cSum, cs] <;> omega
theorem cCells_bd {xss : List (List Int)} (h : cOkB xss = true) : 0 ≤ cCells xss ∧ cCells xss ≤ 256 := by
  have h4 := (cOk_rows h).1
  have := cSum_bd h xss.length (Nat.le_refl _)
  unfold cCells
  rw [if_pos h]
  omega
theorem addr_ok {κ : Nat} {t : Int} (hκ : κ < 4) (h0 : 0 ≤ t) (h1 : t ≤ 59) : addrOk κ (cs (κ : Int) * t) = true := by
  have hc := cs_bd (κ : Int)
  have hp0 : 0 ≤ cs (κ : Int) * t := Int.mul_nonneg (by omega) h0
  have hp1 : cs (κ : Int) * t ≤ 8 * 59 := Int.mul_le_mul (by omega) (by omega) (by omega) (by omega)
  simp only [addrOk, Bool.and_eq_true, decide_eq_true_eq]
  exact ⟨btw_t hp0 (by omega), Int.mul_emod_right _ _⟩
end Go.Proofs.Ytmfomflmbhognaa
