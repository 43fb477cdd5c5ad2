/- hasList and l17Is: a valid cache has a list for the class. -/
import Derived.Test.YtmfomflmbhognaaCacheD
import Derived.Test.YtmfomflmbhognaaCls
namespace Go.Proofs.Ytmfomflmbhognaa
open Go.ChangeShapes Go.WideShapes Go.ChangeAt Go.RowKit Go.Maps
set_option linter.unusedVariables false

def hasL (xss : List (List Int)) (k : Int) : Bool := btw k 0 3 && cOkB xss
theorem hasList_i (A : Option Addr) (c : Nat) (xss : List (List Int)) (k : Int) (w : World) {B : Nat} (hr : Rd2 iv w B A xss) (hn : Rows xss) (v : Bool) (hv : hasL xss k = v) :
    Calls Try.prog 41 #[.agg #[.slice A xss.length c], .int .i64 k] w fun e w' => e = .returned (.bool v) ∧ Below w.heap.size w w' := by
  subst hv
  cases hb : btw k 0 3 with
  | false =>
    have HR := Lib.hid (show hasL xss k = false by simp [hasL, hb])
    go_enter Try.func41, Try.ntmps41
    go_wp2_with (go_at_call 52; refine (classOk_i _ _).mono ?_; rintro e w2 ⟨rfl, rfl⟩)
    go_ret
    exact ⟨by rw [HR.out]; rfl, by (repeat' (first | (with_reducible exact Below.refl _ _) | (with_reducible refine bel_alloc ?_ ?_ _) | (with_reducible refine Below.setCell ?_ ?_ _) | (with_reducible refine below_drewN ?_ _) | (with_reducible refine Below.drew ?_) | (with_reducible exact Nat.le_refl _) | (with_reducible assumption) | omega | (simp only [World.size_alloc, World.size_setCell, World.size_drew]; omega) | (simp; omega) | (simp; done)))⟩
  | true =>
    have HR := Lib.hid (show hasL xss k = cOkB xss by simp [hasL, hb])
    go_enter Try.func41, Try.ntmps41
    go_wp2_with (go_at_call 52; refine (classOk_i _ _).mono ?_; rintro e w2 ⟨rfl, rfl⟩)
    refine (cacheOk_i _ _ _ _ (hr.alloc _) hn _ rfl).mono ?_
    rintro e w2 ⟨rfl, hb2⟩
    go_wp2
    go_ret
    exact ⟨by rw [HR.out]; rfl, by (repeat' (first | (with_reducible exact Below.refl _ _) | (with_reducible refine bel_alloc ?_ ?_ _) | (with_reducible refine Below.setCell ?_ ?_ _) | (with_reducible refine below_drewN ?_ _) | (with_reducible refine Below.drew ?_) | (with_reducible refine bel_step hb2 ?_ ?_) | (with_reducible exact Nat.le_refl _) | (with_reducible assumption) | omega | (simp only [World.size_alloc, World.size_setCell, World.size_drew]; omega) | (simp; omega) | (simp; done)))⟩
theorem l17Is_s (A : Option Addr) (c : Nat) (xss : List (List Int)) (k : Int) (w : World) {B : Nat} (hr : Rd2 iv w B A xss) (hn : Rows xss) (v : Bool) (hv : hasL xss k = v) :
    Calls Try.prog 57 #[.agg #[.slice A xss.length c], .int .i64 k] w fun e w' => e = .returned (.bool v) ∧ Below w.heap.size w w' := by
  subst hv
  cases ho : cOkB xss with
  | false =>
    have HR := Lib.hid (show hasL xss k = false by simp [hasL, ho])
    go_enter Try.func57, Try.ntmps57
    go_wp2_with fail
    refine (cacheOk_s _ _ _ _ (hr.alloc _) hn _ ho).mono ?_
    rintro e w2 ⟨rfl, hb2⟩
    clear ho
    go_wp2
    go_ret
    exact ⟨by rw [HR.out]; rfl, by (repeat' (first | (with_reducible exact Below.refl _ _) | (with_reducible refine bel_alloc ?_ ?_ _) | (with_reducible refine Below.setCell ?_ ?_ _) | (with_reducible refine below_drewN ?_ _) | (with_reducible refine Below.drew ?_) | (with_reducible refine bel_step hb2 ?_ ?_) | (with_reducible exact Nat.le_refl _) | (with_reducible assumption) | omega | (simp only [World.size_alloc, World.size_setCell, World.size_drew]; omega) | (simp; omega) | (simp; done)))⟩
  | true =>
    have HR := Lib.hid (show hasL xss k = btw k 0 3 by simp [hasL, ho])
    go_enter Try.func57, Try.ntmps57
    go_wp2_with fail
    refine (cacheOk_s _ _ _ _ (hr.alloc _) hn _ ho).mono ?_
    rintro e w2 ⟨rfl, hb2⟩
    clear ho
    go_wp2_with (go_at_call 51; refine (l01In_q _ _ _ _).mono ?_; rintro e w2 ⟨rfl, rfl⟩)
    go_ret
    exact ⟨by rw [HR.out]; rfl, by (repeat' (first | (with_reducible exact Below.refl _ _) | (with_reducible refine bel_alloc ?_ ?_ _) | (with_reducible refine Below.setCell ?_ ?_ _) | (with_reducible refine below_drewN ?_ _) | (with_reducible refine Below.drew ?_) | (with_reducible refine bel_step hb2 ?_ ?_) | (with_reducible exact Nat.le_refl _) | (with_reducible assumption) | omega | (simp only [World.size_alloc, World.size_setCell, World.size_drew]; omega) | (simp; omega) | (simp; done)))⟩
end Go.Proofs.Ytmfomflmbhognaa
