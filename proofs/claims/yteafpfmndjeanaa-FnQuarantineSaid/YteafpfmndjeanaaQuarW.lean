/- Quarantines, the plain laws: a list is right if its objects are right, their addresses differ and their times do not fall; so what is cut from it is right. -/
import Derived.Test.YteafpfmndjeanaaQuarJ
namespace Go.Proofs.Yteafpfmndjeanaa
set_option linter.unusedVariables false
set_option linter.unusedSimpArgs false

def RS (a b : St) : Prop := a.1 ≠ b.1 ∧ a.2.2 ≤ b.2.2
def Seq (xs : List St) : Prop := (∀ x ∈ xs, stOne x = true) ∧ xs.Pairwise RS
theorem hasA_iff {xs : List St} {a : Int} : hasA xs a = true ↔ ∃ x ∈ xs, x.1 = a := by simp [hasA]
theorem last_le {bf : List St} {z : Int} (hp : bf.Pairwise RS) (h : bf.length = 0 ∨ lastS bf ≤ z) : ∀ a ∈ bf, a.2.2 ≤ z := by
  intro a ha
  rcases List.eq_nil_or_concat bf with rfl | ⟨l, y, rfl⟩
  · simp at ha
  · have hl : lastS (l ++ [y]) = y.2.2 := by simp [lastS]
    rw [List.concat_eq_append] at *
    have h2 : y.2.2 ≤ z := by
      rcases h with h | h
      · simp at h
      · rw [hl] at h; exact h
    rcases List.mem_append.1 ha with ha | ha
    · have := (List.pairwise_append.1 hp).2.2 a ha y (by simp)
      have := this.2
      omega
    · simp at ha
      subst ha
      exact h2
theorem le_last {bf : List St} {z : Int} (h : ∀ a ∈ bf, a.2.2 ≤ z) : bf.length = 0 ∨ lastS bf ≤ z := by
  rcases List.eq_nil_or_concat bf with rfl | ⟨l, y, rfl⟩
  · exact .inl rfl
  · right
    rw [List.concat_eq_append] at *
    have hl : lastS (l ++ [y]) = y.2.2 := by simp [lastS]
    rw [hl]
    exact h y (by simp)
theorem stOk_iff {bf : List St} {x : St} (hp : bf.Pairwise RS) : stOk bf x = true ↔ stOne x = true ∧ ∀ a ∈ bf, RS a x := by
  simp only [stOk, Bool.and_eq_true, Bool.not_eq_true', Bool.or_eq_true, decide_eq_true_eq]
  constructor
  · rintro ⟨⟨h1, h2⟩, h3⟩
    refine ⟨h1, fun a ha => ⟨fun e => ?_, last_le hp h3 a ha⟩⟩
    have := hasA_iff.2 ⟨a, ha, e⟩
    rw [this] at h2
    cases h2
  · rintro ⟨h1, h2⟩
    refine ⟨⟨h1, ?_⟩, le_last (fun a ha => (h2 a ha).2)⟩
    cases e : hasA bf x.1
    · rfl
    · obtain ⟨a, ha, h⟩ := hasA_iff.1 e
      exact absurd h (h2 a ha).1
theorem seq_take (xs : List St) : ∀ k, k ≤ xs.length → ((∀ j, j < k → okQ xs j = true) ↔ Seq (xs.take k))
  | 0, _ => by simp [Seq]
  | k + 1, hk => by
    have hkl : k < xs.length := by omega
    have ih := seq_take xs k (by omega)
    rw [List.take_succ_eq_append_getElem hkl]
    constructor
    · intro h
      obtain ⟨h1, h2⟩ := ih.1 (fun j hj => h j (by omega))
      have h3 := h k (by omega)
      rw [okQ_at hkl, stOk_iff h2] at h3
      refine ⟨fun x hx => ?_, List.pairwise_append.2 ⟨h2, by simp, fun a ha b hb => ?_⟩⟩
      · rcases List.mem_append.1 hx with hx | hx
        · exact h1 x hx
        · simp at hx
          subst hx
          exact h3.1
      · simp at hb
        subst hb
        exact h3.2 a ha
    · rintro ⟨h1, h2⟩ j hj
      have h3 := List.pairwise_append.1 h2
      by_cases e : j = k
      · subst e
        rw [okQ_at hkl, stOk_iff h3.1]
        exact ⟨h1 _ (List.mem_append_right _ (List.mem_singleton.2 rfl)), fun a ha => h3.2.2 a ha _ (List.mem_singleton.2 rfl)⟩
      · exact ih.2 ⟨fun x hx => h1 x (List.mem_append_left _ hx), h3.1⟩ j (by omega)
theorem qOk_iff {r : Int} {xs : List St} : qOkB r xs = true ↔ Seq xs ∧ (0 ≤ r ∧ r ≤ 500) ∧ qsum xs ≤ r := by
  have h := seq_take xs xs.length (Nat.le_refl _)
  rw [List.take_length] at h
  simp only [qOkB, Bool.and_eq_true, List.all_eq_true, List.mem_range, decide_eq_true_eq]
  rw [h]
  constructor
  · rintro ⟨⟨h1, h2⟩, h3⟩
    exact ⟨h1, of_btw h2, h3⟩
  · rintro ⟨h1, h2, h3⟩
    exact ⟨⟨h1, btw_t h2.1 h2.2⟩, h3⟩
theorem Seq.drop {xs : List St} (h : Seq xs) (k : Nat) : Seq (xs.drop k) := ⟨fun x hx => h.1 x (List.mem_of_mem_drop hx), h.2.drop⟩
theorem Seq.take {xs : List St} (h : Seq xs) (k : Nat) : Seq (xs.take k) := ⟨fun x hx => h.1 x (List.mem_of_mem_take hx), h.2.take⟩
theorem Seq.snoc {xs : List St} {x : St} (h : Seq xs) (hs : stOk xs x = true) : Seq (xs ++ [x]) := by
  rw [stOk_iff h.2] at hs
  refine ⟨fun y hy => ?_, List.pairwise_append.2 ⟨h.2, by simp, fun a ha b hb => ?_⟩⟩
  · rcases List.mem_append.1 hy with hy | hy
    · exact h.1 y hy
    · simp at hy
      subst hy
      exact hs.1
  · simp at hb
    subst hb
    exact hs.2 a ha
theorem qsum_drop (xs : List St) (k : Nat) : qsum (xs.drop k) ≤ qsum xs := by
  have h : qsum xs = qsum (xs.take k) + qsum (xs.drop k) := by
    have e := congrArg qsum (List.take_append_drop k xs)
    rw [← e]
    unfold qsum
    rw [List.map_append, List.sum_append]
  have := qsum_bd (xs.take k)
  omega
theorem addN_le {r : Int} : ∀ l : List St, addN r l ≤ l.length
  | [] => Nat.le_refl _
  | x :: l => by
    have := addN_le (r := r) l
    unfold addN
    split <;> simp <;> omega
theorem addN_sum {r : Int} (hr : 0 ≤ r) : ∀ l : List St, qsum (l.drop (addN r l)) ≤ r
  | [] => by simp [addN, qsum]; exact hr
  | x :: l => by
    have := addN_sum hr l
    unfold addN
    split
    · simpa using ‹qsum (x :: l) ≤ r›
    · simpa using this
theorem qOk_add {r : Int} {xs : List St} {x : St} (h : qOkB r xs = true) (hs : stOk xs x = true) : qOkB r ((xs ++ [x]).drop (addN r (xs ++ [x]))) = true := by
  obtain ⟨h1, h2, h3⟩ := qOk_iff.1 h
  exact qOk_iff.2 ⟨(h1.snoc hs).drop _, h2, addN_sum h2.1 _⟩
theorem qOk_exp {r : Int} {xs : List St} (h : qOkB r xs = true) (k : Nat) : qOkB r (xs.drop k) = true := by
  obtain ⟨h1, h2, h3⟩ := qOk_iff.1 h
  exact qOk_iff.2 ⟨h1.drop _, h2, Int.le_trans (qsum_drop _ _) h3⟩
/-- The newest is kept if anything is. -/
theorem last_in {l : List St} {x : St} {k : Nat} (h : k < (l ++ [x]).length) : x ∈ (l ++ [x]).drop k := by
  rw [List.drop_append_of_le_length (by simp at h; omega)]
  simp
/-- What is cut off has other addresses than what stays. -/
theorem cut_apart {xs : List St} (h : Seq xs) {k j : Nat} (hj : j < xs.length) (hk : j < k) : hasA (xs.drop k) xs[j].1 = false := by
  cases e : hasA (xs.drop k) xs[j].1
  · rfl
  · obtain ⟨y, hy, he⟩ := hasA_iff.1 e
    obtain ⟨i, hi, rfl⟩ := List.getElem_of_mem hy
    rw [List.getElem_drop] at he
    have hi2 : k + i < xs.length := by simp at hi; omega
    have := (List.pairwise_iff_getElem.1 h.2) j (k + i) hj hi2 (by omega)
    exact absurd he.symm this.1
theorem exp_at {p a : Int} : ∀ {l : List St} {j : Nat} (hj : j < l.length), j < expN p a l → a < p - l[j].2.2
  | x :: l, j, hj, h => by
    unfold expN at h
    split at h
    · rename_i hc
      cases j with
      | zero => exact hc
      | succ j =>
        have := exp_at (p := p) (a := a) (l := l) (j := j) (by simpa using hj) (by omega)
        simpa using this
    · omega
theorem exp_stop {p a : Int} : ∀ {l : List St} (h : expN p a l < l.length), ¬ a < p - (l[expN p a l]).2.2
  | [], h => by simp at h
  | x :: l, h => by
    by_cases hc : a < p - x.2.2
    · have e : expN p a (x :: l) = expN p a l + 1 := by simp [expN, hc]
      have hl : expN p a l < l.length := by rw [e] at h; simpa using h
      have := exp_stop hl
      simp only [e, List.getElem_cons_succ]
      exact this
    · have e : expN p a (x :: l) = 0 := by simp [expN, hc]
      simp only [e, List.getElem_cons_zero]
      exact hc
/-- What stays is not too old. -/
theorem exp_rest {p a : Int} {l : List St} (hs : Seq l) : ∀ y ∈ l.drop (expN p a l), ¬ a < p - y.2.2 := by
  intro y hy
  obtain ⟨i, hi, rfl⟩ := List.getElem_of_mem hy
  rw [List.getElem_drop]
  have hi2 : expN p a l + i < l.length := by simp at hi; omega
  have h1 := exp_stop (p := p) (a := a) (l := l) (by omega)
  by_cases e : i = 0
  · subst e
    simpa using h1
  · have := ((List.pairwise_iff_getElem.1 hs.2) (expN p a l) (expN p a l + i) (by omega) hi2 (by omega)).2
    omega
end Go.Proofs.Yteafpfmndjeanaa
