/- Arguments opened: slices of structs of ints, whatever the number of fields; slices of slices. -/
import Derived.Test.YtggigndkamkclaaOpen
import Derived.Test.YtggigndkamkclaaSet
import Derived.Test.YtggigndkamkclaaFlat3
namespace Go.Proofs.Ytggigndkamkclaa
open Go.ChangeShapes Go.WideShapes Go.ChangeAt Go.RowKit Go.Deep
set_option linter.unusedVariables false

theorem wf_i64 {n : Int} (h : (Lit.int .i64 n).wf = true) : -9223372036854775808 ≤ n ∧ n ≤ 9223372036854775807 := by
  simpa [Lit.wf, IntKind.min, IntKind.max, IntKind.signed, IntKind.bits] using h

section
variable {H : Type} {enc : TypeId × Value → H} {P : Program} {w : World} {base : Nat} {spare : Nat → Bool} {held : Bool}
theorem open_rd_fl {α : Type} {f : α → List Value} {n0 : Nat} (hn0 : 0 < n0) (hfl : ∀ a, (f a).length = n0) {t e : TypeId} {fuel : Nat} {v : Value} {x : DataW H × List MemPlace} (ht : P.underlying t = some (.slice e)) (ce : P.cellsOf e = n0)
    (hel : ∀ m cs y, cs.length = n0 → DataW.trod enc P w base spare held m e cs = some y → ∃ a, cs = f a)
    (h : DataW.trod enc P w base spare held fuel t [v] = some x) : ∃ (A : Option Addr) (c : Nat) (xs : List α), v = .slice A xs.length c ∧ Rd w w.heap.size A (xs.flatMap f) ∧ xs.length ≤ maxLen := by
  rcases open_slice ht h with ⟨hcs, _⟩ | ⟨a, l, cap, m, n, D, Pl, hcs, hb, hl, hm, hmm, hx, hi⟩
  · simp at hcs
    exact ⟨none, 0, [], by simpa using hcs, .inl rfl, Nat.zero_le _⟩
  · simp at hcs
    have hml : l ≤ m := by rw [hmm]; split <;> omega
    have each : ∀ i, i < l → ∃ q : α, ∀ j, j < n0 → w.cell? (a.add (i * n0 + j)) = (f q)[j]? := by
      intro i hil
      obtain ⟨cs', hc, ht'⟩ := hi i (by omega)
      rw [ce] at hc
      obtain ⟨_, hcl, hat⟩ := World.cells?_some hc
      obtain ⟨q, rfl⟩ := hel n cs' _ hcl ht'
      refine ⟨q, fun j hj => ?_⟩
      rw [← Go.Deep.add_add]
      exact hat j hj
    obtain ⟨xs, hxl, hxs⟩ : ∃ xs : List α, xs.length = l ∧ ∀ i (hi : i < xs.length), ∀ j, j < n0 → w.cell? (a.add (i * n0 + j)) = (f xs[i])[j]? := by
      clear hcs hx hi hm hl hmm hml
      induction l with
      | zero => exact ⟨[], rfl, fun i hi => absurd hi (by simp)⟩
      | succ l ih =>
        obtain ⟨xs, h1, h2⟩ := ih fun i hi => each i (by omega)
        obtain ⟨q, hq⟩ := each l (by omega)
        refine ⟨xs ++ [q], by simp [h1], fun i hi => ?_⟩
        by_cases h : i < xs.length
        · rw [List.getElem_append_left h]
          exact h2 i h
        · obtain rfl : i = xs.length := by simp at hi; omega
          rw [List.getElem_append_right (by omega)]
          simpa [h1] using hq
    subst hxl
    refine ⟨some a, cap, xs, hcs, ?_, by omega⟩
    rcases Nat.eq_zero_or_pos xs.length with h0 | h0
    · left
      rw [List.eq_nil_of_length_eq_zero h0]
      rfl
    · have h1 := hxs 0 h0 0 hn0
      rw [List.getElem?_eq_getElem (by rw [hfl]; exact hn0)] at h1
      obtain ⟨b, off, rfl⟩ := addr_zero (by simpa using h1)
      rw [add_lit] at h1
      refine .inr ⟨b, off, rfl, lt_of_cell' h1, fun k u hu => ?_⟩
      have hk : k < xs.length * n0 := by
        rcases Nat.lt_or_ge k (xs.length * n0) with h | h
        · exact h
        · rw [List.getElem?_eq_none (by rw [fl_length hfl]; omega)] at hu
          cases hu
      have hk1 : k / n0 < xs.length := (Nat.div_lt_iff_lt_mul hn0).2 hk
      have hk2 : k % n0 < n0 := Nat.mod_lt _ hn0
      have hke : k / n0 * n0 + k % n0 = k := by rw [Nat.mul_comm]; exact Nat.div_add_mod k n0
      have hc := hxs (k / n0) hk1 (k % n0) hk2
      rw [hke, ← fl_at hfl xs hk1 hk2, hke, hu, add_lit] at hc
      exact hc
theorem open_rd2 {α : Type} {encr : List α → List Value} {t e : TypeId} {fuel : Nat} {v : Value} {x : DataW H × List MemPlace} (ht : P.underlying t = some (.slice e)) (ce : P.cellsOf e = 1)
    (hrow : ∀ m u y, DataW.trod enc P w base spare held m e [u] = some y → ∃ (A : Option Addr) (c : Nat) (xs : List α), u = .slice A xs.length c ∧ Rd w w.heap.size A (encr xs) ∧ xs.length ≤ maxLen)
    (h : DataW.trod enc P w base spare held fuel t [v] = some x) : ∃ (A : Option Addr) (c : Nat) (xss : List (List α)), v = .slice A xss.length c ∧ Rd2 encr w w.heap.size A xss ∧ xss.length ≤ maxLen ∧ ∀ xs ∈ xss, xs.length ≤ maxLen := by
  rcases open_slice ht h with ⟨hcs, _⟩ | ⟨a, l, cap, m, n, D, Pl, hcs, hb, hl, hm, hmm, hx, hi⟩
  · simp at hcs
    exact ⟨none, 0, [], by simpa using hcs, .inl rfl, Nat.zero_le _, by simp⟩
  · simp at hcs
    have hml : l ≤ m := by rw [hmm]; split <;> omega
    have each : ∀ i, i < l → ∃ q : List α, (∃ A' c', w.cell? (a.add i) = some (.slice A' q.length c') ∧ Rd w w.heap.size A' (encr q)) ∧ q.length ≤ maxLen := by
      intro i hil
      obtain ⟨cs', hc, ht'⟩ := hi i (by omega)
      rw [ce] at hc
      obtain ⟨_, hcl, hat⟩ := World.cells?_some hc
      match cs', hcl with
      | [u], _ =>
        obtain ⟨A', c', q, rfl, hr, hq⟩ := hrow n u _ ht'
        have h0 := hat 0 (by omega)
        rw [Go.Deep.add_add] at h0
        exact ⟨q, ⟨A', c', by simpa using h0, hr⟩, hq⟩
    obtain ⟨xss, hxl, hxs⟩ : ∃ xss : List (List α), xss.length = l ∧ ∀ i (hi : i < xss.length), (∃ A' c', w.cell? (a.add i) = some (.slice A' xss[i].length c') ∧ Rd w w.heap.size A' (encr xss[i])) ∧ xss[i].length ≤ maxLen := by
      clear hcs hx hi hm hl hmm hml
      induction l with
      | zero => exact ⟨[], rfl, fun i hi => absurd hi (by simp)⟩
      | succ l ih =>
        obtain ⟨xs, h1, h2⟩ := ih fun i hi => each i (by omega)
        obtain ⟨q, hq⟩ := each l (by omega)
        refine ⟨xs ++ [q], by simp [h1], fun i hi => ?_⟩
        by_cases h : i < xs.length
        · rw [List.getElem_append_left h]
          exact h2 i h
        · obtain rfl : i = xs.length := by simp at hi; omega
          rw [List.getElem_append_right (by omega)]
          simpa [h1] using hq
    subst hxl
    refine ⟨some a, cap, xss, hcs, ?_, by omega, fun xs hxs' => ?_⟩
    · rcases Nat.eq_zero_or_pos xss.length with h0 | h0
      · exact .inl (List.eq_nil_of_length_eq_zero h0)
      · obtain ⟨⟨A0, c0, h1, _⟩, _⟩ := hxs 0 h0
        obtain ⟨b, off, rfl⟩ := addr_zero h1
        rw [add_lit] at h1
        refine .inr ⟨b, off, rfl, lt_of_cell' h1, fun k hk => ?_⟩
        obtain ⟨⟨A', c', h2, h3⟩, _⟩ := hxs k hk
        rw [add_lit] at h2
        exact ⟨A', c', h2, h3⟩
    · obtain ⟨i, hi, rfl⟩ := List.getElem_of_mem hxs'
      exact (hxs i hi).2
theorem cells2_of {e : TypeId} {f0 f1 : Field} (he : P.underlying e = some (.struct #[f0, f1])) (hone : oneCellFields P #[f0, f1] = true) (h0 : P.underlying f0.type = some (.int .i64)) (h1 : P.underlying f1.type = some (.int .i64))
    (m : Nat) (cs : List Value) (y : DataW H × List MemPlace) (hl : cs.length = 2) (h : DataW.trod enc P w base spare held m e cs = some y) : ∃ a : Int × Int, cs = p2 a := by
  obtain ⟨ys, n, _, _, _, hyl, hf⟩ := DataW.trod_struct he h
  match cs, hl with
  | [c0, c1], _ =>
    obtain ⟨o0, k0⟩ := hone_of hone 0 f0 rfl
    obtain ⟨o1, k1⟩ := hone_of hone 1 f1 rfl
    match ys, hyl with
    | [y0, y1], _ =>
      have g0 := hf 0 f0 rfl
      have g1 := hf 1 f1 rfl
      simp [o0, k0, o1, k1] at g0 g1
      obtain ⟨a0, e0, _, _⟩ := DataW.trod_int h0 g0
      obtain ⟨a1, e1, _, _⟩ := DataW.trod_int h1 g1
      simp at e0 e1
      exact ⟨(a0, a1), by rw [e0, e1]; rfl⟩
theorem cells3_of {e : TypeId} {f0 f1 f2 : Field} (he : P.underlying e = some (.struct #[f0, f1, f2])) (hone : oneCellFields P #[f0, f1, f2] = true) (h0 : P.underlying f0.type = some (.int .i64)) (h1 : P.underlying f1.type = some (.int .i64)) (h2 : P.underlying f2.type = some (.int .i64))
    (m : Nat) (cs : List Value) (y : DataW H × List MemPlace) (hl : cs.length = 3) (h : DataW.trod enc P w base spare held m e cs = some y) : ∃ a : Int × Int × Int, cs = p3 a := by
  obtain ⟨ys, n, _, _, _, hyl, hf⟩ := DataW.trod_struct he h
  match cs, hl with
  | [c0, c1, c2], _ =>
    obtain ⟨o0, k0⟩ := hone_of hone 0 f0 rfl
    obtain ⟨o1, k1⟩ := hone_of hone 1 f1 rfl
    obtain ⟨o2, k2⟩ := hone_of hone 2 f2 rfl
    match ys, hyl with
    | [y0, y1, y2], _ =>
      have g0 := hf 0 f0 rfl
      have g1 := hf 1 f1 rfl
      have g2 := hf 2 f2 rfl
      simp [o0, k0, o1, k1, o2, k2] at g0 g1 g2
      obtain ⟨a0, e0, _, _⟩ := DataW.trod_int h0 g0
      obtain ⟨a1, e1, _, _⟩ := DataW.trod_int h1 g1
      obtain ⟨a2, e2, _, _⟩ := DataW.trod_int h2 g2
      simp at e0 e1 e2
      exact ⟨(a0, a1, a2), by rw [e0, e1, e2]; rfl⟩
end
end Go.Proofs.Ytggigndkamkclaa
