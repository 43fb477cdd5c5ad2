/- An argument opened: a slice of structs of two ints. -/
import Derived.Test.YtfdpplamebmdhaaOpen
import Derived.Test.YtfdpplamebmdhaaFlat
import Derived.Deep.SlicePairs
namespace Go.Proofs.Ytfdpplamebmdhaa
open Go.ChangeShapes Go.WideShapes Go.ChangeAt Go.RowKit Go.Deep
set_option linter.unusedVariables false

section
variable {H : Type} {enc : TypeId × Value → H} {P : Program} {w : World} {base : Nat} {spare : Nat → Bool} {held : Bool}
theorem open_rd_pairs {t e : TypeId} {f0 f1 : Field} {fuel : Nat} {v : Value} {x : DataW H × List MemPlace} (ht : P.underlying t = some (.slice e)) (he : P.underlying e = some (.struct #[f0, f1]))
    (ce : P.cellsOf e = 2) (o0 : f0.offset = 0) (o1 : f1.offset = 1) (c0 : P.cellsOf f0.type = 1) (c1 : P.cellsOf f1.type = 1) (h0 : P.underlying f0.type = some (.int .i64)) (h1 : P.underlying f1.type = some (.int .i64))
    (h : DataW.trod enc P w base spare held fuel t [v] = some x) : ∃ (A : Option Addr) (c : Nat) (xs : List (Int × Int)), v = .slice A xs.length c ∧ Rd w w.heap.size A (pv xs) ∧ xs.length ≤ maxLen := by
  rcases open_slice_pairs ht he ce o0 o1 c0 c1 h with ⟨hcs, _⟩ | ⟨a, l, cap, m, n, V0, V1, D0, D1, P0, P1, hcs, _, hl, hm, hmm, _, hcell⟩
  · simp at hcs
    exact ⟨none, 0, [], by simpa using hcs, .inl rfl, Nat.zero_le _⟩
  · simp at hcs
    have hml : l ≤ m := by rw [hmm]; split <;> omega
    refine ⟨some a, cap, (List.range l).map fun i => (intOf (V0 i), intOf (V1 i)), by simpa using hcs, ?_, by simp; omega⟩
    cases l with
    | zero => exact .inl (by simp [pv])
    | succ l =>
      obtain ⟨b, off, rfl⟩ := addr_zero (by simpa using (hcell 0 (by omega)).1)
      have hin : ∀ i, i < l + 1 → w.cell? ⟨b, off + i * 2, none⟩ = some (.int .i64 (intOf (V0 i))) ∧ w.cell? ⟨b, off + i * 2 + 1, none⟩ = some (.int .i64 (intOf (V1 i))) := by
        intro i hi
        obtain ⟨g0, g1, t0, t1⟩ := hcell i (by omega)
        obtain ⟨a0, e0, _, _⟩ := DataW.trod_int h0 t0
        obtain ⟨a1, e1, _, _⟩ := DataW.trod_int h1 t1
        simp at e0 e1
        rw [add_lit] at g0 g1
        rw [e0] at g0 ⊢
        rw [e1] at g1 ⊢
        exact ⟨g0, by rw [Nat.add_assoc]; exact g1⟩
      refine .inr ⟨b, off, rfl, lt_of_cell' (hin 0 (by omega)).1, fun k u hu => ?_⟩
      have hk : k < (l + 1) * 2 := by
        rcases Nat.lt_or_ge k ((l + 1) * 2) with h | h
        · exact h
        · rw [List.getElem?_eq_none (by rw [pv_length]; simp; omega)] at hu
          cases hu
      have hp := pv_at ((List.range (l + 1)).map fun i => (intOf (V0 i), intOf (V1 i))) (k := k / 2) (by simp; omega)
      have hi := hin (k / 2) (by omega)
      rcases (by omega : k = k / 2 * 2 ∨ k = k / 2 * 2 + 1) with e | e
      · rw [e] at hu ⊢
        rw [hp.1] at hu
        rw [hi.1, ← hu]
        simp
      · rw [e] at hu ⊢
        rw [hp.2] at hu
        rw [← Nat.add_assoc, hi.2, ← hu]
        simp
end
end Go.Proofs.Ytfdpplamebmdhaa
