/- QuarNew, of the program and of the reference. -/
import Derived.Test.YteafpfmndjeanaaQuarA
import Derived.Test.YteafpfmndjeanaaNum
namespace Go.Proofs.Yteafpfmndjeanaa
open Go.ChangeShapes Go.WideShapes Go.ChangeAt Go.RowKit
set_option linter.unusedVariables false

def qn (p : Int) : Int := if btw p 0 500 then p else 0
def MadeQuarB (r : Int) (xs : List (Int × Int × Int)) (ok : Bool) (w : World) (e : Ending) (w' : World) : Prop :=
  ∃ A c S, e = .returned (.tuple #[.agg #[.int .i64 r, .slice A xs.length c], .bool ok]) ∧ Wr w' S A (tv xs) ∧ New S w w' ∧ Below w.heap.size w w' ∧ (xs.length ≤ c ∧ c ≤ maxLen)
set_option maxHeartbeats 1000000 in
theorem quarNew_i (p : Int) (w : World) (v : Bool) (hv : btw p 0 500 = v) : Calls Try.prog 11 #[.int .i64 p] w (MadeQuarB (qn p) [] v w) := by
  cases v with
  | false =>
    have HR := Lib.hid (show qn p = 0 by simp [qn, hv])
    go_enter Try.func11, Try.ntmps11
    go_wp2_with (go_at_call 34; refine (between_q _ _ _ _).mono ?_; rintro e w2 ⟨rfl, rfl⟩)
    refine bodyPost_ret (v := .tuple #[.agg #[.int .i64 0, .slice none 0 0], .bool false]) (by simp [results, Try.results11, go_sem]) rfl ⟨none, 0, fun _ => False, by rw [HR.out]; rfl, .inl rfl, fun _ h => h.elim, ?_, by simp⟩
    (repeat' (first | (with_reducible exact Below.refl _ _) | (with_reducible refine bel_alloc ?_ ?_ _) | (with_reducible refine Below.setCell ?_ ?_ _) | (with_reducible refine below_drewN ?_ _) | (with_reducible refine Below.drew ?_) | (with_reducible exact Nat.le_refl _) | (with_reducible assumption) | omega | (simp only [World.size_alloc, World.size_setCell, World.size_drew]; omega) | (simp; omega) | (simp; done)))
  | true =>
    have HR := Lib.hid (show qn p = p by simp [qn, hv])
    go_enter Try.func11, Try.ntmps11
    go_wp2_with (go_at_call 34; refine (between_q _ _ _ _).mono ?_; rintro e w2 ⟨rfl, rfl⟩)
    refine bodyPost_ret (v := .tuple #[.agg #[.int .i64 p, .slice none 0 0], .bool true]) (by simp [results, Try.results11, go_sem]) rfl ⟨none, 0, fun _ => False, by rw [HR.out]; rfl, .inl rfl, fun _ h => h.elim, ?_, by simp⟩
    (repeat' (first | (with_reducible exact Below.refl _ _) | (with_reducible refine bel_alloc ?_ ?_ _) | (with_reducible refine Below.setCell ?_ ?_ _) | (with_reducible refine below_drewN ?_ _) | (with_reducible refine Below.drew ?_) | (with_reducible exact Nat.le_refl _) | (with_reducible assumption) | omega | (simp only [World.size_alloc, World.size_setCell, World.size_drew]; omega) | (simp; omega) | (simp; done)))
set_option maxHeartbeats 1000000 in
theorem quarNew_s (p : Int) (w : World) (v : Bool) (hv : btw p 0 500 = v) : Calls Try.prog 10 #[.int .i64 p] w (MadeQuarB (qn p) [] v w) := by
  cases v with
  | false =>
    have HR := Lib.hid (show qn p = 0 by simp [qn, hv])
    go_enter Try.func10, Try.ntmps10
    go_wp2_with (go_at_call 33; refine (l01In_q _ _ _ _).mono ?_; rintro e w2 ⟨rfl, rfl⟩)
    refine bodyPost_ret (v := .tuple #[.agg #[.int .i64 0, .slice none 0 0], .bool false]) (by simp [results, Try.results10, go_sem]) rfl ⟨none, 0, fun _ => False, by rw [HR.out]; rfl, .inl rfl, fun _ h => h.elim, ?_, by simp⟩
    (repeat' (first | (with_reducible exact Below.refl _ _) | (with_reducible refine bel_alloc ?_ ?_ _) | (with_reducible refine Below.setCell ?_ ?_ _) | (with_reducible refine below_drewN ?_ _) | (with_reducible refine Below.drew ?_) | (with_reducible exact Nat.le_refl _) | (with_reducible assumption) | omega | (simp only [World.size_alloc, World.size_setCell, World.size_drew]; omega) | (simp; omega) | (simp; done)))
  | true =>
    have HR := Lib.hid (show qn p = p by simp [qn, hv])
    go_enter Try.func10, Try.ntmps10
    go_wp2_with (go_at_call 33; refine (l01In_q _ _ _ _).mono ?_; rintro e w2 ⟨rfl, rfl⟩)
    refine bodyPost_ret (v := .tuple #[.agg #[.int .i64 p, .slice none 0 0], .bool true]) (by simp [results, Try.results10, go_sem]) rfl ⟨none, 0, fun _ => False, by rw [HR.out]; rfl, .inl rfl, fun _ h => h.elim, ?_, by simp⟩
    (repeat' (first | (with_reducible exact Below.refl _ _) | (with_reducible refine bel_alloc ?_ ?_ _) | (with_reducible refine Below.setCell ?_ ?_ _) | (with_reducible refine below_drewN ?_ _) | (with_reducible refine Below.drew ?_) | (with_reducible exact Nat.le_refl _) | (with_reducible assumption) | omega | (simp only [World.size_alloc, World.size_setCell, World.size_drew]; omega) | (simp; omega) | (simp; done)))
end Go.Proofs.Yteafpfmndjeanaa
