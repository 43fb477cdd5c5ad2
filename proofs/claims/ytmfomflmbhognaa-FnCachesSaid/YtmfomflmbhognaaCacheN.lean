/- CacheNew, of the program and of the reference. -/
import Derived.Test.YtmfomflmbhognaaCacheS
import Derived.BigRegion
import Derived.Deep.OwnRows
namespace Go.Proofs.Ytmfomflmbhognaa
open Go.ChangeShapes Go.WideShapes Go.ChangeAt Go.RowKit
set_option linter.unusedVariables false

def MadeCache (xss : List (List Int)) (w : World) (e : Ending) (w' : World) : Prop :=
  ∃ A c S, e = .returned (.agg #[.slice A xss.length c]) ∧ (xss.length ≤ c ∧ c ≤ maxLen) ∧ Wr2 iv w' S A xss ∧ New S w w' ∧ Below w.heap.size w w'
theorem wr2_nils {α : Type} {enc : List α → List Value} (h0 : enc [] = []) {w : World} {g n : Nat} (hc : ∀ k, k < n → w.cell? ⟨g, k, none⟩ = some (.slice none 0 0)) : Wr2 enc w (fun b => b = g) (some ⟨g, 0, none⟩) (List.replicate n []) := by
  refine .inr ⟨g, 0, fun _ _ => False, fun _ => (none, 0), rfl, rfl, fun _ _ _ h => h.elim, fun k hk => ?_, fun k hk => .inl (by simpa using h0), fun _ _ _ h => h.elim, fun _ _ _ _ _ h => h.elim⟩
  have hk' : k < n := by simpa using hk
  rw [Nat.zero_add, hc k hk']
  simp
theorem madeNil (n k : Nat) (hk : k < n) : (madeCells #[Value.slice none 0 0] n)[k]? = some (.slice none 0 0) := by
  rw [← Array.getElem?_toList, toList_madeCells_one]
  simp [hk]
set_option maxHeartbeats 4000000 in
theorem cacheNew_i (w : World) : Calls Try.prog 14 #[] w (MadeCache (List.replicate 4 []) w) := by
  have hm2 := fun W => Go.run_make_row' (P := Try.prog) 26 24 (.slice none 0 0) 24 Try.underlying26 infoIntSS rfl .i64 .i64 4 (by omega) (by omega) W
  simp only [show ((4 : Nat) : Int) = 4 from rfl] at hm2
  have HM := Lib.hid (madeNil 4)
  go_enter Try.func14, Try.ntmps14
  generalize madeCells #[.slice none 0 0] 4 = cs at *
  go_wp2
  refine bodyPost_ret (v := .agg #[.slice (some ⟨w.heap.size + 1, 0, none⟩) 4 4]) (by simp [results, Try.results14, go_sem]) rfl ⟨some ⟨w.heap.size + 1, 0, none⟩, 4, fun b => b = w.heap.size + 1, by simp, by unfold maxLen; simp, ?_, fun b hb => by simp only [World.size_setCell, World.size_alloc, World.size_drew]; have h : b = _ := hb; omega, ?_⟩
  · exact wr2_nils rfl (fun k hk => (Cl.new (w := w.alloc _) (cs := cs) (t := 24) (by simp) (HM.out k hk)).1)
  · (repeat' (first | (with_reducible exact Below.refl _ _) | (with_reducible refine bel_alloc ?_ ?_ _) | (with_reducible refine Below.setCell ?_ ?_ _) | (with_reducible refine below_drewN ?_ _) | (with_reducible refine Below.drew ?_) | (with_reducible exact Nat.le_refl _) | (with_reducible assumption) | omega | (simp only [World.size_alloc, World.size_setCell, World.size_drew]; omega) | (simp; omega) | (simp; done)))
set_option maxHeartbeats 4000000 in
theorem cacheNew_s (w : World) : Calls Try.prog 66 #[] w (MadeCache (List.replicate 4 []) w) := by
  have hm2 := fun W => Go.run_make_row' (P := Try.prog) 26 24 (.slice none 0 0) 24 Try.underlying26 infoIntSS rfl .i64 .i64 4 (by omega) (by omega) W
  simp only [show ((4 : Nat) : Int) = 4 from rfl] at hm2
  have HM := Lib.hid (madeNil 4)
  go_enter Try.func66, Try.ntmps66
  generalize madeCells #[.slice none 0 0] 4 = cs at *
  go_wp2
  refine bodyPost_ret (v := .agg #[.slice (some ⟨w.heap.size + 1, 0, none⟩) 4 4]) (by simp [results, Try.results66, go_sem]) rfl ⟨some ⟨w.heap.size + 1, 0, none⟩, 4, fun b => b = w.heap.size + 1, by simp, by unfold maxLen; simp, ?_, fun b hb => by simp only [World.size_setCell, World.size_alloc, World.size_drew]; have h : b = _ := hb; omega, ?_⟩
  · exact wr2_nils rfl (fun k hk => (Cl.new (w := w.alloc _) (cs := cs) (t := 24) (by simp) (HM.out k hk)).1)
  · (repeat' (first | (with_reducible exact Below.refl _ _) | (with_reducible refine bel_alloc ?_ ?_ _) | (with_reducible refine Below.setCell ?_ ?_ _) | (with_reducible refine below_drewN ?_ _) | (with_reducible refine Below.drew ?_) | (with_reducible exact Nat.le_refl _) | (with_reducible assumption) | omega | (simp only [World.size_alloc, World.size_setCell, World.size_drew]; omega) | (simp; omega) | (simp; done)))
end Go.Proofs.Ytmfomflmbhognaa
