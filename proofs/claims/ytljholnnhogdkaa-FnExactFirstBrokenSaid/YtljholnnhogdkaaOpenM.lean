/- Arguments opened: a slice of bools; a machine (a struct of a struct of two slices and a struct of one). -/
import Derived.Test.YtljholnnhogdkaaOpenG
import Derived.Test.YtljholnnhogdkaaBoolS
namespace Go.Proofs.Ytljholnnhogdkaa
open Go.ChangeShapes Go.WideShapes Go.ChangeAt Go.RowKit Go.Deep
set_option linter.unusedVariables false

section
variable {H : Type} {enc : TypeId × Value → H} {P : Program} {w : World} {base : Nat} {spare : Nat → Bool} {held : Bool}
theorem cellsB_of {e : TypeId} (he : P.underlying e = some .bool) (m : Nat) (cs : List Value) (y : DataW H × List MemPlace) (hl : cs.length = 1) (h : DataW.trod enc P w base spare held m e cs = some y) : ∃ a : Bool, cs = [Value.bool a] := by
  obtain ⟨b, h1, _⟩ := DataW.trod_bool he h
  exact ⟨b, h1⟩
theorem fm_bl (xs : List Bool) : xs.flatMap (fun b => [Value.bool b]) = bl xs := by
  induction xs with
  | nil => rfl
  | cons x l ih => simp only [List.flatMap_cons, List.map_cons]; rw [ih]; rfl
theorem open_rd_bools {t e : TypeId} {fuel : Nat} {v : Value} {x : DataW H × List MemPlace} (ht : P.underlying t = some (.slice e)) (he : P.underlying e = some .bool) (hc : P.cellsOf e = 1)
    (h : DataW.trod enc P w base spare held fuel t [v] = some x) : ∃ (A : Option Addr) (c : Nat) (xs : List Bool), v = .slice A xs.length c ∧ Rd w w.heap.size A (bl xs) ∧ xs.length ≤ maxLen := by
  obtain ⟨A, c, xs, h1, h2, h3⟩ := open_rd_fl (f := fun b : Bool => [Value.bool b]) (n0 := 1) (by omega) (fun _ => rfl) ht hc (cellsB_of he) h
  exact ⟨A, c, xs, h1, by rw [← fm_bl]; exact h2, h3⟩
theorem open_mach {r : Reach} {b0 : Nat} {t : TypeId} {f0 f1 g0 g1 h0 : Field} {v : Value} {d : DataW H} {p : List MemPlace} (hs : P.underlying t = some (.struct #[f0, f1])) (o0 : f0.offset = 0) (k0 : P.cellsOf f0.type = 2) (o1 : f1.offset = 2) (k1 : P.cellsOf f1.type = 1) (hC : P.cellsOf t = 3)
    (hf : P.underlying f0.type = some (.struct #[g0, g1])) (hone : oneCellFields P #[g0, g1] = true) (ht : P.underlying f1.type = some (.struct #[h0])) (hone2 : oneCellFields P #[h0] = true)
    (hv : Value.okWide P w r b0 t v) (h : DataW.Trod enc P w base spare held t v d p) :
    ∃ (v0 v1 v2 : Value) (y0 y1 y2 : DataW H × List MemPlace) (n0 n1 n2 : Nat), v = .agg #[v0, v1, v2] ∧ DataW.trod enc P w base spare held n0 g0.type [v0] = some y0 ∧ DataW.trod enc P w base spare held n1 g1.type [v1] = some y1 ∧ DataW.trod enc P w base spare held n2 h0.type [v2] = some y2 := by
  obtain ⟨cs, rfl, hsz⟩ := okWide_struct hs hv
  obtain ⟨l⟩ := cs
  match l, hsz.trans hC with
  | [c0, c1, c2], _ =>
    obtain ⟨fuel, hfu⟩ := h
    obtain ⟨ys, n, _, _, _, hyl, hff⟩ := DataW.trod_struct hs hfu
    match ys, hyl with
    | [y0, y1], _ =>
      have q0 := hff 0 f0 rfl
      have q1 := hff 1 f1 rfl
      simp [o0, k0, o1, k1, Value.cells] at q0 q1
      obtain ⟨zs, m, _, _, _, hzl, hgg⟩ := DataW.trod_struct hf q0
      obtain ⟨us, m2, _, _, _, hul, hhh⟩ := DataW.trod_struct ht q1
      obtain ⟨e0, l0⟩ := hone_of hone 0 g0 rfl
      obtain ⟨e1, l1⟩ := hone_of hone 1 g1 rfl
      obtain ⟨e2, l2⟩ := hone_of hone2 0 h0 rfl
      match zs, hzl, us, hul with
      | [z0, z1], _, [u0], _ =>
        have r0 := hgg 0 g0 rfl
        have r1 := hgg 1 g1 rfl
        have r2 := hhh 0 h0 rfl
        simp [e0, l0, e1, l1] at r0 r1
        simp [e2, l2] at r2
        exact ⟨c0, c1, c2, z0, z1, u0, m, m, m2, rfl, r0, r1, r2⟩
end
end Go.Proofs.Ytljholnnhogdkaa
