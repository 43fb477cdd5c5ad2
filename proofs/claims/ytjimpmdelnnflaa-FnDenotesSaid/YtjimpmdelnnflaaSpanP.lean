/- Spans: what the small functions compute. -/
import Derived.Test.YtjimpmdelnnflaaCls
namespace Go.Proofs.Ytjimpmdelnnflaa
open Go.ChangeShapes Go.WideShapes Go.ChangeAt Go.RowKit
set_option linter.unusedVariables false
set_option linter.unusedSimpArgs false

def sl (c : Int) : Int := if c = 0 then 16 else if c = 1 then 8 else if c = 2 then 4 else if c = 3 then 2 else 0
def mxb (c : Int) : Int := if c = 0 then 65535 else if c = 1 then 255 else if c = 2 then 15 else if c = 3 then 3 else 0
theorem sl_out {c : Int} (h : ¬ (0 ≤ c ∧ c ≤ 3)) : sl c = 0 := by
  unfold sl
  rw [if_neg (by omega), if_neg (by omega), if_neg (by omega), if_neg (by omega)]
theorem cls_in {c : Int} (h : btw c 0 3 = true) : c = 0 ∨ c = 1 ∨ c = 2 ∨ c = 3 := by have := of_btw h; omega
def bmOk (c b : Int) : Bool := btw c 0 3 && btw b 0 (mxb c)
/-- Is the span right? -/
def spOk (P C B : Int) : Bool := btw P 0 31 && bmOk C B
theorem spOk_yes {P C B : Int} (h : spOk P C B = true) : (0 ≤ P ∧ P ≤ 31) ∧ (0 ≤ C ∧ C ≤ 3) ∧ 0 ≤ B ∧ B ≤ mxb C ∧ B ≤ 65535 := by
  simp only [spOk, bmOk, Bool.and_eq_true] at h
  have h1 := of_btw h.1
  have h2 := of_btw h.2.1
  have h3 := of_btw h.2.2
  refine ⟨h1, h2, h3.1, h3.2, Int.le_trans h3.2 ?_⟩
  unfold mxb
  repeat' split <;> omega
/-- Has the bitmap the slot? -/
def slB (b i : Int) : Bool := decide (0 ≤ b) && btw i 0 15
theorem slB_yes {b i : Int} (h : slB b i = true) : 0 ≤ b ∧ 0 ≤ i ∧ i ≤ 15 := by
  simp only [slB, Bool.and_eq_true, decide_eq_true_eq] at h
  exact ⟨h.1, of_btw h.2⟩
def hasS (b i : Int) : Bool := slB b i && (bits .and .i64 (b / 2 ^ i.toNat) 1 == 1)
def sAddr (P C B s : Int) : Int := if spOk P C B && btw s 0 (sl C - 1) then P * 16 + s * cs C else -1
def inSp (P C B a : Int) : Bool := spOk P C B && btw a (P * 16) (P * 16 + 15)
def sAt (P C B a : Int) : Int := if inSp P C B a then (a - P * 16) / cs C else -1
def sOf (P C B a : Int) : Int := if inSp P C B a then (a - P * 16) % cs C else -1
def sCells (P C B : Int) : List Int := if spOk P C B then ((List.range 16).filter (fun i : Nat => hasS B ((i : Int) / cs C))).map (fun i : Nat => (i : Int)) else []
theorem cs_pos {C : Int} (h : 0 ≤ C ∧ C ≤ 3) : 1 ≤ cs C ∧ cs C ≤ 8 := by
  rcases (by omega : C = 0 ∨ C = 1 ∨ C = 2 ∨ C = 3) with rfl | rfl | rfl | rfl <;> decide
end Go.Proofs.Ytjimpmdelnnflaa
