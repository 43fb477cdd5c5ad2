/- What a valid machine is, and what a load answers, in plain words. -/
import Derived.Test.YtljholnnhogdkaaKit
namespace Go.Proofs.Ytljholnnhogdkaa

abbrev En := Int × Int
def fRow (u : Bool) (l : List Int) : Bool := decide (l.length = 16) && l.all (fun v => btw v 0 999 && (decide (v = 0) || u))
def fOkB (xss : List (List Int)) (us : List Bool) : Bool :=
  btw xss.length 1 32 && decide (us.length = xss.length) && (List.range xss.length).all (fun i => fRow (us.getD i false) (xss.getD i []))
def eOk (n : Int) (e : En) : Bool := btw e.1 0 2 && decide (0 ≤ e.2) && (if e.1 = 0 then decide (e.2 = 0) else decide (e.2 < n))
def tOkB (es : List En) (n : Int) : Bool := es.all (eOk n) && btw es.length 1 32
def onE (i : Int) (e : En) : Bool := decide (e.1 ≠ 0) && decide (e.2 = i)
def onB (es : List En) (i : Int) : Bool := es.any (onE i)
def mkOkB (xss : List (List Int)) (us : List Bool) (es : List En) : Bool :=
  fOkB xss us && tOkB es us.length && (List.range us.length).all (fun i => us.getD i false == onB es (i : Nat))
theorem rowD {xss : List (List Int)} {k : Nat} (h : k < xss.length) : xss.getD k [] = xss[k] := by simp [List.getD_eq_getElem?_getD, List.getElem?_eq_getElem h]
theorem useD {us : List Bool} {k : Nat} (h : k < us.length) : us.getD k false = us[k] := by simp [List.getD_eq_getElem?_getD, List.getElem?_eq_getElem h]
theorem fOk_n {xss : List (List Int)} {us : List Bool} (h : btw xss.length 1 32 = false) : fOkB xss us = false := by simp [fOkB, h]
theorem fOk_len {xss : List (List Int)} {us : List Bool} (h : us.length ≠ xss.length) : fOkB xss us = false := by simp [fOkB, h]
theorem fOk_row {xss : List (List Int)} {us : List Bool} {k : Nat} (hk : k < xss.length) (hk2 : k < us.length) (h : fRow us[k] xss[k] = false) : fOkB xss us = false := by
  have : (List.range xss.length).all (fun i => fRow (us.getD i false) (xss.getD i [])) = false := by
    rw [List.all_eq_false]
    exact ⟨k, List.mem_range.2 hk, by rw [rowD hk, useD hk2, h]; simp⟩
  simp only [fOkB, this, Bool.and_false]
theorem fRow_len {u : Bool} {l : List Int} (h : l.length ≠ 16) : fRow u l = false := by simp [fRow, h]
theorem fRow_cell {u : Bool} {l : List Int} {j : Nat} (hj : j < l.length) (h : (btw l[j] 0 999 && (decide (l[j] = 0) || u)) = false) : fRow u l = false := by
  have : l.all (fun v => btw v 0 999 && (decide (v = 0) || u)) = false := by
    rw [List.all_eq_false]
    exact ⟨l[j], List.getElem_mem hj, by rw [h]; simp⟩
  simp only [fRow, this, Bool.and_false]
theorem fRow_all {u : Bool} {l : List Int} (h16 : l.length = 16) (h : ∀ j (hj : j < l.length), (btw l[j] 0 999 && (decide (l[j] = 0) || u)) = true) : fRow u l = true := by
  simp only [fRow, h16, decide_true, Bool.true_and, List.all_eq_true]
  intro x hx
  obtain ⟨j, hj, rfl⟩ := List.getElem_of_mem hx
  exact h j hj
theorem fOk_all {xss : List (List Int)} {us : List Bool} (hn : btw xss.length 1 32 = true) (hl : us.length = xss.length) (h : ∀ k (hk : k < xss.length) (hk2 : k < us.length), fRow us[k] xss[k] = true) : fOkB xss us = true := by
  have : (List.range xss.length).all (fun i => fRow (us.getD i false) (xss.getD i [])) = true := by
    rw [List.all_eq_true]
    intro k hk
    have hk := List.mem_range.1 hk
    rw [rowD hk, useD (by omega)]
    exact h k hk (by omega)
  simp only [fOkB, hn, hl, this, decide_true, Bool.and_self]
theorem tOk_e {es : List En} {n : Int} {k : Nat} (hk : k < es.length) (h : eOk n es[k] = false) : tOkB es n = false := by
  have : es.all (eOk n) = false := by
    rw [List.all_eq_false]
    exact ⟨es[k], List.getElem_mem hk, by simp [h]⟩
  simp [tOkB, this]
theorem tOk_all {es : List En} {n : Int} (h : ∀ k (hk : k < es.length), eOk n es[k] = true) : tOkB es n = btw es.length 1 32 := by
  have : es.all (eOk n) = true := by
    rw [List.all_eq_true]
    intro x hx
    obtain ⟨j, hj, rfl⟩ := List.getElem_of_mem hx
    exact h j hj
  simp [tOkB, this]
theorem mk_f {xss : List (List Int)} {us : List Bool} {es : List En} (h : fOkB xss us = false) : mkOkB xss us es = false := by simp [mkOkB, h]
theorem mk_t {xss : List (List Int)} {us : List Bool} {es : List En} (h : tOkB es us.length = false) : mkOkB xss us es = false := by simp [mkOkB, h]
theorem mk_u {xss : List (List Int)} {us : List Bool} {es : List En} {k : Nat} (hk : k < us.length) (h : us[k] ≠ onB es (k : Nat)) : mkOkB xss us es = false := by
  have : (List.range us.length).all (fun i => us.getD i false == onB es (i : Nat)) = false := by
    rw [List.all_eq_false]
    exact ⟨k, List.mem_range.2 hk, by rw [useD hk]; simpa using h⟩
  simp only [mkOkB, this, Bool.and_false]
theorem mk_all {xss : List (List Int)} {us : List Bool} {es : List En} (hf : fOkB xss us = true) (ht : tOkB es us.length = true) (h : ∀ k (hk : k < us.length), us[k] = onB es (k : Nat)) : mkOkB xss us es = true := by
  have : (List.range us.length).all (fun i => us.getD i false == onB es (i : Nat)) = true := by
    rw [List.all_eq_true]
    intro k hk
    have hk := List.mem_range.1 hk
    rw [useD hk, h k hk]
    simp
  simp only [mkOkB, hf, ht, this, Bool.and_self]
theorem fOk_facts {xss : List (List Int)} {us : List Bool} (h : fOkB xss us = true) : 1 ≤ xss.length ∧ xss.length ≤ 32 ∧ us.length = xss.length ∧ ∀ k (hk : k < xss.length), xss[k].length = 16 := by
  simp only [fOkB, Bool.and_eq_true, decide_eq_true_eq, List.all_eq_true] at h
  have h1 := of_btw h.1.1
  refine ⟨by omega, by omega, h.1.2, fun k hk => ?_⟩
  have := h.2 k (List.mem_range.2 hk)
  rw [rowD hk] at this
  simp only [fRow, Bool.and_eq_true, decide_eq_true_eq] at this
  exact this.1
theorem tOk_facts {es : List En} {n : Int} (h : tOkB es n = true) : es.length ≤ 32 ∧ ∀ k (hk : k < es.length), 0 ≤ es[k].1 ∧ es[k].1 ≤ 2 ∧ 0 ≤ es[k].2 ∧ (es[k].1 ≠ 0 → es[k].2 < n) := by
  simp only [tOkB, Bool.and_eq_true, List.all_eq_true] at h
  have h1 := of_btw h.2
  refine ⟨by omega, fun k hk => ?_⟩
  have := h.1 _ (List.getElem_mem hk)
  simp only [eOk, Bool.and_eq_true, decide_eq_true_eq] at this
  have h2 := of_btw this.1.1
  refine ⟨h2.1, h2.2, this.1.2, fun h0 => ?_⟩
  have h3 := this.2
  rw [if_neg h0] at h3
  simpa using h3
/-- The entry of a page. -/
def peOf (es : List En) (p : Int) : En := if btw p 0 ((es.length : Int) - 1) then es.getD p.toNat (0, 0) else (0, 0)
/-- What a load answers: value and fault. -/
def ldOf (xss : List (List Int)) (us : List Bool) (es : List En) (a : Int) : Int × Int :=
  if mkOkB xss us es = true ∧ 0 ≤ a ∧ (peOf es (a / 16)).1 ≠ 0 then ((xss.getD (peOf es (a / 16)).2.toNat []).getD (a % 16).toNat 0, 0) else (0, 1)
def brk (xss : List (List Int)) (us : List Bool) (es : List En) (x : Int) : Bool := decide ((ldOf xss us es x).2 ≠ 0) || decide ((ldOf xss us es x).1 ≠ 777)
def firstB (xss : List (List Int)) (us : List Bool) (es : List En) : List Int → Int
  | [] => -1
  | x :: l => if brk xss us es x then x else firstB xss us es l
theorem firstB_at {xss : List (List Int)} {us : List Bool} {es : List En} : ∀ {l : List Int} {k : Nat} (hk : k < l.length), (∀ j (hj : j < l.length), j < k → brk xss us es l[j] = false) → brk xss us es l[k] = true → firstB xss us es l = l[k]
  | x :: l, 0, _, _, h => by simp only [List.getElem_cons_zero] at *; simp [firstB, h]
  | x :: l, k + 1, hk, h0, h => by
    have h1 := h0 0 (by simp) (by omega)
    simp only [List.getElem_cons_zero] at h1
    simp only [firstB, h1, List.getElem_cons_succ, Bool.false_eq_true, if_false]
    refine firstB_at (by simpa using hk) (fun j hj hjk => ?_) (by simpa using h)
    have := h0 (j + 1) (by simpa using hj) (by omega)
    simpa using this
theorem firstB_no {xss : List (List Int)} {us : List Bool} {es : List En} : ∀ {l : List Int}, (∀ j (hj : j < l.length), brk xss us es l[j] = false) → firstB xss us es l = -1
  | [], _ => rfl
  | x :: l, h => by
    have h1 := h 0 (by simp)
    simp only [List.getElem_cons_zero] at h1
    simp only [firstB, h1, Bool.false_eq_true, if_false]
    exact firstB_no fun j hj => by have := h (j + 1) (by simpa using hj); simpa using this
theorem firstB_or {xss : List (List Int)} {us : List Bool} {es : List En} : ∀ {l : List Int}, (∀ x ∈ l, 0 ≤ x) → firstB xss us es l = -1 ∨ 0 ≤ firstB xss us es l
  | [], _ => .inl rfl
  | x :: l, h => by
    simp only [firstB]
    split
    · exact .inr (h x (by simp))
    · exact firstB_or fun y hy => h y (by simp [hy])
end Go.Proofs.Ytljholnnhogdkaa
