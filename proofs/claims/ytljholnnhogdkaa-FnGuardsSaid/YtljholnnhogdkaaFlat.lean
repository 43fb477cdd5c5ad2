/- Slices of structs of two or three ints, as cells. -/
import Derived.Test.YtljholnnhogdkaaMem
namespace Go.Proofs.Ytljholnnhogdkaa
open Go.ChangeShapes Go.WideShapes Go.ChangeAt Go.RowKit
set_option linter.unusedVariables false

def p2 (x : Int × Int) : List Value := [.int .i64 x.1, .int .i64 x.2]
def pv (xs : List (Int × Int)) : List Value := xs.flatMap p2
theorem pv_length (xs : List (Int × Int)) : (pv xs).length = xs.length * 2 := by
  unfold pv
  induction xs with
  | nil => rfl
  | cons x l ih => simp only [List.flatMap_cons, List.length_append, ih, p2, List.length_cons, List.length_nil]; omega
theorem pv_at : ∀ (xs : List (Int × Int)) {k : Nat} (h : k < xs.length), (pv xs)[k * 2]? = some (.int .i64 xs[k].1) ∧ (pv xs)[k * 2 + 1]? = some (.int .i64 xs[k].2)
  | [], k, h => absurd h (by simp)
  | x :: l, 0, h => by simp [pv, p2]
  | x :: l, k + 1, h => by
    have ih := pv_at l (k := k) (by simpa using h)
    have e1 : (k + 1) * 2 = k * 2 + 1 + 1 := by omega
    simp only [pv, p2, List.flatMap_cons, e1, List.cons_append, List.nil_append, List.getElem?_cons_succ, List.getElem_cons_succ] at ih ⊢
    exact ih
theorem Rd.pair {w : World} {B : Nat} {A : Option Addr} {xs : List (Int × Int)} (h : Rd w B A (pv xs)) {k : Nat} (hk : k < xs.length) :
    ∃ b off, A = some ⟨b, off, none⟩ ∧ b < B ∧ w.cell? ⟨b, off + k * 2, none⟩ = some (.int .i64 xs[k].1) ∧ w.cell? ⟨b, off + k * 2 + 1, none⟩ = some (.int .i64 xs[k].2) := by
  have h2 := pv_at xs hk
  obtain ⟨b, off, rfl, hb, h0⟩ := h.at_ h2.1
  obtain ⟨b', off', hA, _, h1⟩ := h.at_ h2.2
  injection hA with hA
  injection hA with e1 e2
  subst e1 e2
  exact ⟨b, off, rfl, hb, h0, by rw [Nat.add_assoc]; exact h1⟩
theorem pv_one (xs : List (Int × Int)) : ∀ u ∈ pv xs, u.oneCell' = true := by
  intro u hu
  obtain ⟨x, _, hx⟩ := List.mem_flatMap.1 hu
  simp [p2] at hx
  rcases hx with rfl | rfl <;> rfl
end Go.Proofs.Ytljholnnhogdkaa
