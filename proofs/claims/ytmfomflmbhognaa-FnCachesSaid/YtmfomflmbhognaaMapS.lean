/- A set of ints as a map[int]bool that the call makes. -/
import Derived.Test.YtmfomflmbhognaaMem
import Derived.Maps.OwnOps
import Derived.Maps.Views
namespace Go.Proofs.Ytmfomflmbhognaa
open Go.ChangeShapes Go.WideShapes Go.ChangeAt Go.RowKit Go.Maps
set_option linter.unusedVariables false

/-- Block `B` is a map of at most `n` entries, true at just the numbers of the list. -/
def IsSet (w : World) (B n : Nat) (s : List Int) : Prop :=
  ∃ D : DataW Unit, w.ownsMap Try.prog 3 (plainElem Try.prog 4) B n D ∧ IsMap D ∧ ∀ x, (Lit.int .i64 x).wf = true → D.atKey (.int .i64 x) (.lit (.bool false)) = .lit (.bool (decide (x ∈ s)))
theorem keyInt : Keyed Try.prog 3 := int_keyed Try.underlying3
theorem zeroBool (w : World) : (zeroValue 4).run Try.prog w = .ok (.bool false) w := by kernel_rfl
theorem IsSet.made (w : World) : IsSet (w.alloc (.map #[] 0)) w.heap.size 0 [] :=
  ⟨.map [], World.ownsMap_made _ _ _ _, isMap_empty, fun x _ => by simp [DataW.atKey]⟩
theorem IsSet.below {w w1 : World} {B n : Nat} {s : List Int} (h : IsSet w B n s) (hb : Below w.heap.size w w1) : IsSet w1 B n s := by
  obtain ⟨D, h1, h2⟩ := h
  exact ⟨D, h1.kept (below_grown hb none) (by simp), h2⟩
theorem IsSet.alloc {w : World} {B n : Nat} {s : List Int} (h : IsSet w B n s) (o : Obj) : IsSet (w.alloc o) B n s := h.below ((Below.refl _ _).alloc (Nat.le_refl _) o)
theorem IsSet.lt {w : World} {B n : Nat} {s : List Int} (h : IsSet w B n s) : B < w.heap.size := by obtain ⟨D, h1, _⟩ := h; exact h1.lt
theorem IsSet.congr {w : World} {B n : Nat} {s t : List Int} (h : IsSet w B n s) (hst : ∀ x, x ∈ s ↔ x ∈ t) : IsSet w B n t := by
  obtain ⟨D, h1, h2, h3⟩ := h
  refine ⟨D, h1, h2, fun x hx => ?_⟩
  rw [h3 x hx]
  congr 2
  simp [hst x]
theorem IsSet.mono {w : World} {B n n' : Nat} {s : List Int} (h : IsSet w B n s) (hn : n ≤ n') : IsSet w B n' s := by
  obtain ⟨D, h1, h2⟩ := h
  exact ⟨D, h1.mono hn, h2⟩
theorem plainElem_bool_inv {H : Type} {P : Program} {e : TypeId} (he : P.underlying e = some .bool) {v : Value} {z : DataW H × List MemPlace} (h : plainElem P e v = some z) : ∃ b, v = .bool b ∧ z = (.lit (.bool b), []) := by
  unfold plainElem at h
  rw [he] at h
  cases v <;> simp at h
  obtain rfl := h
  exact ⟨_, rfl, rfl⟩
set_option maxRecDepth 4000 in
theorem IsSet.look {w : World} {B n : Nat} {s : List Int} (h : IsSet w B n s) {x : Int} (hx : (Lit.int .i64 x).wf = true) :
    (Instr.lookup 62 (.map (some B)) (.int .i64 x) false).run Try.prog w = .ok (.bool (decide (x ∈ s))) w := by
  obtain ⟨D, h1, h2, h3⟩ := h
  obtain ⟨v, ps, hrun, hv⟩ := h1.lookup keyInt Try.underlying62 (zeroBool w) (plainElem_bool Try.underlying4 false) (keyOf_int_mk Try.underlying3 hx)
  obtain ⟨b, rfl, hb⟩ := plainElem_bool_inv Try.underlying4 hv
  rw [h3 x hx] at hb
  simp only [Prod.mk.injEq, DataW.lit.injEq, Lit.bool.injEq] at hb
  rw [hrun, hb.1]
theorem IsSet.update {w : World} {B n : Nat} {s : List Int} (h : IsSet w B n s) (hn : n < maxLen) {x : Int} (hx : (Lit.int .i64 x).wf = true) :
    ∃ w', (Instr.mapUpdate 62 (.map (some B)) (.int .i64 x) (.bool true)).run Try.prog w = .ok () w' ∧ IsSet w' B (n + 1) (x :: s) ∧ w.grownBy w' (some B) := by
  obtain ⟨D, h1, h2, h3⟩ := h
  obtain ⟨w', hrun, r1, r2⟩ := h1.update keyInt Try.underlying62 hn (keyOf_int_mk Try.underlying3 hx) (plainElem_bool Try.underlying4 true)
  refine ⟨w', hrun, ⟨_, r1, h2.put _ _, fun y hy => ?_⟩, r2⟩
  by_cases e : y = x
  · subst e
    rw [atKey_put_same h2 (by simp [WideAt.IsKeyLit])]
    simp
  · rw [atKey_put_other (by simpa using e), h3 y hy]
    simp [e]
theorem wpList_set {w : World} {ops : Array Oper} {rest : List Oper} {o : Oper} {a : Act} {Q : Exit → Act → World → Prop}
    (hg : o.guard = none) (m x v : Operand) (hop : o.op = Op.mapUpdate 62 m x v) {B n : Nat} {s : List Int} {y : Int}
    (hm : a.eval m = .map (some B)) (hs : IsSet w B n s) (hn : n < maxLen) (hx : a.eval x = .int .i64 y) (hv : a.eval v = .bool true) (hy : (Lit.int .i64 y).wf = true)
    (hK : ∀ w', IsSet w' B (n + 1) (y :: s) → w.grownBy w' (some B) → wpList Try.prog ops Q rest (a.put o.dst undef) w') :
    wpList Try.prog ops Q (o :: rest) a w := by
  refine wpList_plain hg fun K' hK' => ?_
  obtain ⟨w', hrun, r1, r2⟩ := hs.update hn hy
  unfold Oper.wp
  simp [execOp, hop, hm, hx, hv, hrun, Result.andThen]
  exact hK' _ _ (hK w' r1 r2)
end Go.Proofs.Ytmfomflmbhognaa
