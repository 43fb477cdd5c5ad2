/- Many cells written at once, over Wr; clear of one struct of two ints. -/
import Derived.Test.YtfdpplamebmdhaaSet
import Derived.Lib.SliceRun
import Derived.Laws.IdiomCopy
namespace Go.Proofs.Ytfdpplamebmdhaa
open Go.ChangeShapes Go.WideShapes Go.ChangeAt Go.RowKit
set_option linter.unusedVariables false
set_option linter.unusedSimpArgs false

theorem Wr.many {S : Nat → Prop} {A : Option Addr} {b off : Nat} (hA : A = some ⟨b, off, none⟩) : ∀ (vs : List Value) {w : World} {xs : List Value} (k : Nat), Wr w S A xs → k + vs.length ≤ xs.length →
    Wr (w.setCells b (off + k) vs) S A (xs.take k ++ vs ++ xs.drop (k + vs.length))
  | [], w, xs, k, h, hk => by simpa [World.setCells] using h
  | v :: vs, w, xs, k, h, hk => by
    simp only [List.length_cons] at hk
    have h1 := Wr.many hA vs (k + 1) (h.set (k := k) hA v) (by simp; omega)
    have e : (xs.set k v).take (k + 1) ++ vs ++ (xs.set k v).drop (k + 1 + vs.length) = xs.take k ++ v :: vs ++ xs.drop (k + (v :: vs).length) := by
      have e1 : (xs.set k v).take (k + 1) = xs.take k ++ [v] := by
        rw [List.take_succ_eq_append_getElem (by simp; omega), List.take_set_of_le (Nat.le_refl _)]
        simp
      have e2 : (xs.set k v).drop (k + 1 + vs.length) = xs.drop (k + (v :: vs).length) := by
        rw [List.drop_set_of_lt (by omega)]
        congr 1
        simp; omega
      rw [e1, e2]
      simp
    rw [e] at h1
    exact h1
theorem OutS.many {S : Nat → Prop} {b : Nat} (hb : S b) : ∀ (vs : List Value) (o : Nat) (w : World), OutS S w (w.setCells b o vs)
  | [], o, w => OutS.refl
  | v :: vs, o, w => (OutS.set w v hb).trans (OutS.many hb vs (o + 1) _)
theorem run_clear_two {P : Program} (w : World) (t e ty : TypeId) (ht : P.underlying t = some (.slice e)) (hv : ∀ w, (zeroValue e).run P w = .ok (.agg #[.int .i64 0, .int .i64 0]) w) (b o c : Nat)
    (hc : ∀ j, j < 2 → (w.cell? ⟨b, o + j, none⟩).isSome = true) (hf : ∀ j, j < 2 → w.frozen? ⟨b, o + j, none⟩ = false) :
    (Builtin.clear_ #[t] ty #[.slice (some ⟨b, o, none⟩) 1 c]).run P w = .ok (.tuple #[]) (w.setCells b o [.int .i64 0, .int .i64 0]) := by
  have hzc : (Builtin.zeroCells (Value.agg #[.int .i64 0, .int .i64 0]).cells 1).toList = [.int .i64 0, .int .i64 0] := by kernel_rfl
  have hst := run_storeCells_cells (P := P) b o [.int .i64 0, .int .i64 0] 0 w (by simpa using hc) (by simpa using hf) (by intro v hv'; simp at hv'; subst hv'; rfl)
  simp only [Nat.add_zero] at hst
  simp [Builtin.clear_, run_underlying ht, hv, hzc, hst]
theorem Wr.front {w : World} {S : Nat → Prop} {A : Option Addr} {xs ys : List Value} (h : Wr w S A (xs ++ ys)) : Wr w S A xs := by
  rcases h with h | ⟨b, off, rfl, hb, h⟩
  · exact .inl (List.append_eq_nil_iff.1 h).1
  · refine .inr ⟨b, off, rfl, hb, fun k v hk => h k v ?_⟩
    rw [List.getElem?_append_left (List.getElem?_eq_some_iff.1 hk).1, hk]
end Go.Proofs.Ytfdpplamebmdhaa
