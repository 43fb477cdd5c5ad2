/- Slices of structs of three ints, as cells; the general law of flat rows. -/
import Derived.Test.YtljholnnhogdkaaFlat
namespace Go.Proofs.Ytljholnnhogdkaa
open Go.ChangeShapes Go.WideShapes Go.ChangeAt Go.RowKit
set_option linter.unusedVariables false

section
variable {α : Type} {f : α → List Value} {n0 : Nat}
theorem fl_length (hf : ∀ a, (f a).length = n0) (xs : List α) : (xs.flatMap f).length = xs.length * n0 := by
  induction xs with
  | nil => simp
  | cons x l ih => simp only [List.flatMap_cons, List.length_append, ih, hf, List.length_cons, Nat.add_mul]; omega
theorem fl_at (hf : ∀ a, (f a).length = n0) : ∀ (xs : List α) {k j : Nat} (h : k < xs.length), j < n0 → (xs.flatMap f)[k * n0 + j]? = (f xs[k])[j]?
  | [], k, j, h, _ => absurd h (by simp)
  | x :: l, 0, j, h, hj => by
    rw [List.flatMap_cons, Nat.zero_mul, Nat.zero_add, List.getElem?_append_left (by rw [hf]; exact hj)]
    rfl
  | x :: l, k + 1, j, h, hj => by
    have ih := fl_at hf l (k := k) (by simpa using h) hj
    rw [List.flatMap_cons, List.getElem?_append_right (by rw [hf, Nat.add_mul]; omega), hf, show (k + 1) * n0 + j - n0 = k * n0 + j by rw [Nat.add_mul]; omega, ih]
    rfl
end

def p3 (x : Int × Int × Int) : List Value := [.int .i64 x.1, .int .i64 x.2.1, .int .i64 x.2.2]
def tv (xs : List (Int × Int × Int)) : List Value := xs.flatMap p3
theorem tv_length (xs : List (Int × Int × Int)) : (tv xs).length = xs.length * 3 := fl_length (f := p3) (n0 := 3) (fun _ => rfl) xs
theorem tv_at (xs : List (Int × Int × Int)) {k : Nat} (h : k < xs.length) :
    (tv xs)[k * 3]? = some (.int .i64 xs[k].1) ∧ (tv xs)[k * 3 + 1]? = some (.int .i64 xs[k].2.1) ∧ (tv xs)[k * 3 + 2]? = some (.int .i64 xs[k].2.2) :=
  ⟨fl_at (f := p3) (n0 := 3) (fun _ => rfl) xs (j := 0) h (by omega), fl_at (f := p3) (n0 := 3) (fun _ => rfl) xs (j := 1) h (by omega), fl_at (f := p3) (n0 := 3) (fun _ => rfl) xs (j := 2) h (by omega)⟩
theorem Rd.trip {w : World} {B : Nat} {A : Option Addr} {xs : List (Int × Int × Int)} (h : Rd w B A (tv xs)) {k : Nat} (hk : k < xs.length) :
    ∃ b off, A = some ⟨b, off, none⟩ ∧ b < B ∧ w.cell? ⟨b, off + k * 3, none⟩ = some (.int .i64 xs[k].1) ∧ w.cell? ⟨b, off + k * 3 + 1, none⟩ = some (.int .i64 xs[k].2.1) ∧ w.cell? ⟨b, off + k * 3 + 2, none⟩ = some (.int .i64 xs[k].2.2) := by
  have h3 := tv_at xs hk
  obtain ⟨b, off, rfl, hb, h0⟩ := h.at_ h3.1
  obtain ⟨b', off', hA, _, h1⟩ := h.at_ h3.2.1
  injection hA with hA
  injection hA with e1 e2
  subst e1 e2
  obtain ⟨b', off', hA, _, h2⟩ := h.at_ h3.2.2
  injection hA with hA
  injection hA with e1 e2
  subst e1 e2
  exact ⟨b, off, rfl, hb, h0, by rw [Nat.add_assoc]; exact h1, by rw [Nat.add_assoc]; exact h2⟩
theorem tv_one (xs : List (Int × Int × Int)) : ∀ u ∈ tv xs, u.oneCell' = true := by
  intro u hu
  obtain ⟨x, _, hx⟩ := List.mem_flatMap.1 hu
  simp [p3] at hx
  rcases hx with rfl | rfl | rfl <;> rfl
theorem tv_take (xs : List (Int × Int × Int)) (k : Nat) : tv xs = tv (xs.take k) ++ tv (xs.drop k) := by
  unfold tv
  rw [← List.flatMap_append, List.take_append_drop]
theorem pv_take (xs : List (Int × Int)) (k : Nat) : pv xs = pv (xs.take k) ++ pv (xs.drop k) := by
  unfold pv
  rw [← List.flatMap_append, List.take_append_drop]
end Go.Proofs.Ytljholnnhogdkaa
