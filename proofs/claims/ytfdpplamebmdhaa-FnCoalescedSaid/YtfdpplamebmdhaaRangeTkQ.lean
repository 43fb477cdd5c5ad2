/- RangeTake, of the program, where it takes nothing at its head. -/
import Derived.Test.YtfdpplamebmdhaaRangeTkP
namespace Go.Proofs.Ytfdpplamebmdhaa
open Go.ChangeShapes Go.WideShapes Go.ChangeAt Go.RowKit
set_option linter.unusedVariables false
set_option linter.unusedSimpArgs false

def MadeRT (ys : List Rg) (at_ : Int) (ok : Bool) (w : World) (e : Ending) (w' : World) : Prop :=
  ∃ A c S, e = .returned (.tuple #[.slice A ys.length c, .int .i64 at_, .bool ok]) ∧ Wr w' S A (pv ys) ∧ New S w w' ∧ Below w.heap.size w w' ∧ (ys.length ≤ c ∧ c ≤ maxLen)
theorem made_rt {w w' : World} {xs : List Rg} {lo : Nat} {A : Option Addr} {c n : Nat} {t : Int} {ok : Bool} (hn : n = xs.length) (h : w'.ownsRow lo 42 2 (.slice A n c) n (pv xs)) (hl : w.heap.size ≤ lo) (hb : Below w.heap.size w w') : MadeRT xs t ok w (.returned (.tuple #[.slice A n c, .int .i64 t, .bool ok])) w' := by
  subst hn
  have ho := Ow.mk' h
  obtain ⟨S, hW, hN⟩ := ho.wr.new w.heap.size (fun b h => by omega)
  exact ⟨A, c, S, rfl, hW, hN, hb, ho.cap⟩
set_option maxHeartbeats 4000000 in
theorem rangeTake_i_no (pages : Int) (A : Option Addr) (c : Nat) (xs : List Rg) (n : Int) (w : World) {B : Nat} (hr : Rd w B A (pv xs)) (hn : xs.length ≤ 1048576) (hpg : -9223372036854775808 ≤ pages ∧ pages ≤ 9223372036854775807) (hno : rOkB pages xs = false ∨ n < 1) :
    Calls Try.prog 28 #[.int .i64 pages, .slice A xs.length c, .int .i64 n] w (MadeRT xs (-1) false w) := by
  have CO := fun W (h : Rd W W.heap.size A (pv xs)) => rangesOk_i pages A c xs W h hn hpg
  go_enter Try.func28, Try.ntmps28
  go_wp2_with fail
  refine (copyRanges_any _ _ _ _ hr hn).mono ?_
  rintro e w3 ⟨A3, c3, rfl, ho, hb3⟩
  have hr3 := hr.below hb3
  cases hv : rOkB pages xs with
  | false =>
    rw [hv] at CO
    have CO := Lib.hid CO
    clear hno hv
    go_wp2_with fail
    refine (CO.out _ hr3.lt).mono ?_
    rintro e w2 ⟨rfl, hb2⟩
    have HB := Lib.hid (show Below w.heap.size w w2 by (repeat' (first | (with_reducible exact Below.refl _ _) | (with_reducible refine bel_alloc ?_ ?_ _) | (with_reducible refine Below.setCell ?_ ?_ _) | (with_reducible refine below_drewN ?_ _) | (with_reducible refine Below.drew ?_) | (with_reducible refine bel_step hb3 ?_ ?_) | (with_reducible refine bel_step hb2 ?_ ?_) | (with_reducible exact Nat.le_refl _) | (with_reducible assumption) | omega | (simp only [World.size_alloc, World.size_setCell, World.size_drew]; omega) | (simp; omega) | (simp; done))))
    have HO := Lib.hid (ho.below hb2)
    go_wp2
    go_ret3
    exact made_rt rfl HO.out.1 (Nat.le_refl _) HB.out
  | true =>
    have hi := hno.resolve_left (by rw [hv]; simp)
    rw [hv] at CO
    have CO := Lib.hid CO
    clear hno hv
    go_wp2_with fail
    refine (CO.out _ hr3.lt).mono ?_
    rintro e w2 ⟨rfl, hb2⟩
    have HB := Lib.hid (show Below w.heap.size w w2 by (repeat' (first | (with_reducible exact Below.refl _ _) | (with_reducible refine bel_alloc ?_ ?_ _) | (with_reducible refine Below.setCell ?_ ?_ _) | (with_reducible refine below_drewN ?_ _) | (with_reducible refine Below.drew ?_) | (with_reducible refine bel_step hb3 ?_ ?_) | (with_reducible refine bel_step hb2 ?_ ?_) | (with_reducible exact Nat.le_refl _) | (with_reducible assumption) | omega | (simp only [World.size_alloc, World.size_setCell, World.size_drew]; omega) | (simp; omega) | (simp; done))))
    have HO := Lib.hid (ho.below hb2)
    go_wp2
    go_ret3
    exact made_rt rfl HO.out.1 (Nat.le_refl _) HB.out
end Go.Proofs.Ytfdpplamebmdhaa
