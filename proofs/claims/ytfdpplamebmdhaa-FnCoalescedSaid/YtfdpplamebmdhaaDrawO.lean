/- l01Once of a draw. -/
import Derived.Test.YtfdpplamebmdhaaPlaces
import Derived.Test.YtfdpplamebmdhaaSet
namespace Go.Proofs.Ytfdpplamebmdhaa
open Go.ChangeShapes Go.WideShapes Go.ChangeAt Go.RowKit
set_option linter.unusedVariables false

def OnceOut (g B : Nat) (A : Option Addr) (c : Nat) (bs : List Int) (w : World) (e : Ending) (w' : World) : Prop :=
  ∃ b : Bool, e = .returned (.bool b) ∧ Cur w' g B A c bs ∧ Out g (g + 1) w w'
theorem l01Once_any (n : Int) (g B : Nat) (A : Option Addr) (c : Nat) (bs : List Int) (w : World) (hb : Bytes bs) (hB : B ≤ g) (hc : Cur w g B A c bs) (hn : n ≤ 1000000000) :
    Calls Try.prog 52 #[.pointer (some ⟨g, 0, none⟩), .int .i64 n] w (OnceOut g B A c bs w) := by
  go_enter Try.func52, Try.ntmps52
  go_wp2_with fail
  refine (l01Below_any n g B A c bs _ hb hB hc hn).mono ?_
  rintro e w1 ⟨x, rfl, -, -, -, hc1, ho1⟩
  go_wp2
  go_ret
  exact ⟨_, rfl, hc1, ho1⟩
theorem Out.setOf {g : Nat} {w w1 : World} (h : Out g (g + 1) w w1) : OutS (fun b => b = g) w w1 := OutS.of_out h (fun b h1 h2 => by omega)
theorem Wr.cur {g : Nat} {w w1 : World} {S : Nat → Prop} {A : Option Addr} {xs : List Value} (h : Wr w S A xs) (ho : Out g (g + 1) w w1) (hS : ∀ b, S b → g < b) : Wr w1 S A xs :=
  h.outS ho.setOf (fun b hb e => by have := hS b hb; omega)
theorem Out.below {lo hi : Nat} {w w1 w2 : World} (h : Out lo hi w w1) (hb : Below w1.heap.size w1 w2) : Out lo hi w w2 := h.trans (Out.of_below hb)
/-- What turns the cursor alone, and the cursor is new, leaves the old blocks alone. -/
theorem Out.bel {g : Nat} {a w w1 : World} (h : Out g (g + 1) w w1) (ha : Below a.heap.size a w) (hg : a.heap.size ≤ g) : Below a.heap.size a w1 := bel_out h ha (Nat.le_refl _) hg
end Go.Proofs.Ytfdpplamebmdhaa
