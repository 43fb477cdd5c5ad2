/- Arguments opened: slices of structs of ints, with the bounds of the ints. -/
import Derived.Test.YtjimpmdelnnflaaOpenG
namespace Go.Proofs.Ytjimpmdelnnflaa
open Go.ChangeShapes Go.WideShapes Go.ChangeAt Go.RowKit Go.Deep
set_option linter.unusedVariables false

def I64 (x : Int) : Prop := -9223372036854775808 ≤ x ∧ x ≤ 9223372036854775807
def I2 (a : Int × Int) : Prop := I64 a.1 ∧ I64 a.2
def I3 (a : Int × Int × Int) : Prop := I64 a.1 ∧ I64 a.2.1 ∧ I64 a.2.2
section
variable {H : Type} {enc : TypeId × Value → H} {P : Program} {w : World} {base : Nat} {spare : Nat → Bool} {held : Bool}
theorem open_rd_flp {α : Type} {f : α → List Value} {Pr : α → Prop} {n0 : Nat} (hn0 : 0 < n0) (hfl : ∀ a, (f a).length = n0) {t e : TypeId} {fuel : Nat} {v : Value} {x : DataW H × List MemPlace} (ht : P.underlying t = some (.slice e)) (ce : P.cellsOf e = n0)
    (hel : ∀ m cs y, cs.length = n0 → DataW.trod enc P w base spare held m e cs = some y → ∃ a, cs = f a ∧ Pr a)
    (h : DataW.trod enc P w base spare held fuel t [v] = some x) : ∃ (A : Option Addr) (c : Nat) (xs : List α), v = .slice A xs.length c ∧ Rd w w.heap.size A (xs.flatMap f) ∧ xs.length ≤ maxLen ∧ ∀ x ∈ xs, Pr x := by
  rcases open_slice ht h with ⟨hcs, _⟩ | ⟨a, l, cap, m, n, D, Pl, hcs, hb, hl, hm, hmm, hx, hi⟩
  · simp at hcs
    exact ⟨none, 0, [], by simpa using hcs, .inl rfl, Nat.zero_le _, by simp⟩
  · simp at hcs
    have hml : l ≤ m := by rw [hmm]; split <;> omega
    have each : ∀ i, i < l → ∃ q : α, (∀ j, j < n0 → w.cell? (a.add (i * n0 + j)) = (f q)[j]?) ∧ Pr q := by
      intro i hil
      obtain ⟨cs', hc, ht'⟩ := hi i (by omega)
      rw [ce] at hc
      obtain ⟨_, hcl, hat⟩ := World.cells?_some hc
      obtain ⟨q, rfl, hq⟩ := hel n cs' _ hcl ht'
      refine ⟨q, fun j hj => ?_, hq⟩
      rw [← Go.Deep.add_add]
      exact hat j hj
    obtain ⟨xs, hxl, hxs⟩ : ∃ xs : List α, xs.length = l ∧ ∀ i (hi : i < xs.length), (∀ j, j < n0 → w.cell? (a.add (i * n0 + j)) = (f xs[i])[j]?) ∧ Pr xs[i] := by
      clear hcs hx hi hm hl hmm hml
      induction l with
      | zero => exact ⟨[], rfl, fun i hi => absurd hi (by simp)⟩
      | succ l ih =>
        obtain ⟨xs, h1, h2⟩ := ih fun i hi => each i (by omega)
        obtain ⟨q, hq⟩ := each l (by omega)
        refine ⟨xs ++ [q], by simp [h1], fun i hi => ?_⟩
        by_cases h : i < xs.length
        · rw [List.getElem_append_left h]
          exact h2 i h
        · obtain rfl : i = xs.length := by simp at hi; omega
          rw [List.getElem_append_right (by omega)]
          simpa [h1] using hq
    subst hxl
    refine ⟨some a, cap, xs, hcs, ?_, by omega, fun x hx => by obtain ⟨i, hi, rfl⟩ := List.getElem_of_mem hx; exact (hxs i hi).2⟩
    rcases Nat.eq_zero_or_pos xs.length with h0 | h0
    · left
      rw [List.eq_nil_of_length_eq_zero h0]
      rfl
    · have h1 := (hxs 0 h0).1 0 hn0
      rw [List.getElem?_eq_getElem (by rw [hfl]; exact hn0)] at h1
      obtain ⟨b, off, rfl⟩ := addr_zero (by simpa using h1)
      rw [add_lit] at h1
      refine .inr ⟨b, off, rfl, lt_of_cell' h1, fun k u hu => ?_⟩
      have hk : k < xs.length * n0 := by
        rcases Nat.lt_or_ge k (xs.length * n0) with h | h
        · exact h
        · rw [List.getElem?_eq_none (by rw [fl_length hfl]; omega)] at hu
          cases hu
      have hk1 : k / n0 < xs.length := (Nat.div_lt_iff_lt_mul hn0).2 hk
      have hk2 : k % n0 < n0 := Nat.mod_lt _ hn0
      have hke : k / n0 * n0 + k % n0 = k := by rw [Nat.mul_comm]; exact Nat.div_add_mod k n0
      have hc := (hxs (k / n0) hk1).1 (k % n0) hk2
      rw [hke, ← fl_at hfl xs hk1 hk2, hke, hu, add_lit] at hc
      exact hc
theorem cells2b_of {e : TypeId} {f0 f1 : Field} (he : P.underlying e = some (.struct #[f0, f1])) (hone : oneCellFields P #[f0, f1] = true) (h0 : P.underlying f0.type = some (.int .i64)) (h1 : P.underlying f1.type = some (.int .i64))
    (m : Nat) (cs : List Value) (y : DataW H × List MemPlace) (hl : cs.length = 2) (h : DataW.trod enc P w base spare held m e cs = some y) : ∃ a : Int × Int, cs = p2 a ∧ I2 a := by
  obtain ⟨ys, n, _, _, _, hyl, hf⟩ := DataW.trod_struct he h
  match cs, hl with
  | [c0, c1], _ =>
    obtain ⟨o0, k0⟩ := hone_of hone 0 f0 rfl
    obtain ⟨o1, k1⟩ := hone_of hone 1 f1 rfl
    match ys, hyl with
    | [y0, y1], _ =>
      have g0 := hf 0 f0 rfl
      have g1 := hf 1 f1 rfl
      simp [o0, k0, o1, k1] at g0 g1
      obtain ⟨a0, e0, _, b0⟩ := DataW.trod_int h0 g0
      obtain ⟨a1, e1, _, b1⟩ := DataW.trod_int h1 g1
      simp at e0 e1
      exact ⟨(a0, a1), by rw [e0, e1]; rfl, wf_i64 b0, wf_i64 b1⟩
theorem cells3b_of {e : TypeId} {f0 f1 f2 : Field} (he : P.underlying e = some (.struct #[f0, f1, f2])) (hone : oneCellFields P #[f0, f1, f2] = true) (h0 : P.underlying f0.type = some (.int .i64)) (h1 : P.underlying f1.type = some (.int .i64)) (h2 : P.underlying f2.type = some (.int .i64))
    (m : Nat) (cs : List Value) (y : DataW H × List MemPlace) (hl : cs.length = 3) (h : DataW.trod enc P w base spare held m e cs = some y) : ∃ a : Int × Int × Int, cs = p3 a ∧ I3 a := by
  obtain ⟨ys, n, _, _, _, hyl, hf⟩ := DataW.trod_struct he h
  match cs, hl with
  | [c0, c1, c2], _ =>
    obtain ⟨o0, k0⟩ := hone_of hone 0 f0 rfl
    obtain ⟨o1, k1⟩ := hone_of hone 1 f1 rfl
    obtain ⟨o2, k2⟩ := hone_of hone 2 f2 rfl
    match ys, hyl with
    | [y0, y1, y2], _ =>
      have g0 := hf 0 f0 rfl
      have g1 := hf 1 f1 rfl
      have g2 := hf 2 f2 rfl
      simp [o0, k0, o1, k1, o2, k2] at g0 g1 g2
      obtain ⟨a0, e0, _, b0⟩ := DataW.trod_int h0 g0
      obtain ⟨a1, e1, _, b1⟩ := DataW.trod_int h1 g1
      obtain ⟨a2, e2, _, b2⟩ := DataW.trod_int h2 g2
      simp at e0 e1 e2
      exact ⟨(a0, a1, a2), by rw [e0, e1, e2]; rfl, wf_i64 b0, wf_i64 b1, wf_i64 b2⟩
end
end Go.Proofs.Ytjimpmdelnnflaa
