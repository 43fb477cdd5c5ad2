/- A result of type []int that the call has made by appends: how it is told. -/
import Derived.Test.YtljholnnhogdkaaIntW
import Derived.Test.YtljholnnhogdkaaApp
namespace Go.Proofs.Ytljholnnhogdkaa
open Go.ChangeShapes Go.WideShapes Go.ChangeAt Go.RowKit
set_option linter.unusedVariables false

def MadeIntSN (xs : List Int) (w : World) (e : Ending) (w' : World) : Prop :=
  ∃ A c S, e = .returned (.slice A xs.length c) ∧ Wr w' S A (iv xs) ∧ New S w w' ∧ Below w.heap.size w w'
theorem iv_app (a b : List Int) : iv (a ++ b) = iv a ++ iv b := by simp [iv]
theorem own_lo {w : World} {lo : Nat} {e : TypeId} {size n c m : Nat} {A : Option Addr} {xs : List Value} (h : w.ownsRow lo e size (.slice A n c) m xs) : ∀ y, (∃ o, A = some ⟨y, o, none⟩) → lo ≤ y := by
  rintro y ⟨o, rfl⟩
  rcases h.2 with ⟨hv, _⟩ | ⟨g, cap, cur, hv, hg, _⟩
  · cases hv
  · injection hv with hv
    injection hv with hv
    injection hv with hv
    omega
theorem made_own {w w' : World} {xs : List Int} {lo : Nat} {A : Option Addr} {c : Nat} {n : Nat} (hn : n = xs.length) (h : w'.ownsRow lo 3 1 (.slice A n c) n (iv xs)) (hl : w.heap.size ≤ lo) (hb : Below w.heap.size w w') : MadeIntSN xs w (.returned (.slice A n c)) w' := by
  subst hn
  have ho := Ow.mk' h
  obtain ⟨S, hW, hN⟩ := ho.wr.new w.heap.size (fun b h => by omega)
  exact ⟨A, c, S, rfl, hW, hN, hb⟩
theorem made_nil (w w' : World) (hb : Below w.heap.size w w') : MadeIntSN [] w (.returned (.slice none 0 0)) w' :=
  ⟨none, 0, fun _ => False, rfl, .inl rfl, fun _ h => h.elim, hb⟩
end Go.Proofs.Ytljholnnhogdkaa
