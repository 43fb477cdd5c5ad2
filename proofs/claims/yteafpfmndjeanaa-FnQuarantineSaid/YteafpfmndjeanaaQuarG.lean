/- slices.Clone at []Stale; QuarAdd of the program. -/
import Derived.Test.YteafpfmndjeanaaQuarE
import Derived.Test.YteafpfmndjeanaaQuarF
import Derived.Lib.SliceRun
namespace Go.Proofs.Yteafpfmndjeanaa
open Go.ChangeShapes Go.WideShapes Go.ChangeAt Go.RowKit
set_option linter.unusedVariables false

set_option maxHeartbeats 1000000 in
theorem clone_any (A : Option Addr) (n c : Nat) (xs : List St) (w : World) {B : Nat} (hr : Rd w B A (tv xs)) (hl : xs.length = n) (hn : n ≤ 1048577) :
    Calls Try.prog 46 #[.slice A n c] w (MadeStaleSW xs w) := by
  subst hl
  obtain ⟨i0, hi, hz0, hz1, hz2⟩ := info_parts infoStale
  have hone := Lib.hid (tv_one xs)
  have hlen := Lib.hid (tv_length xs)
  have HE := fun w (a : Option Addr) n c => Go.Lib.run_eql_slice_nil (P := Try.prog) w 22 47 a n c 0 0 Try.underlying22
  cases A with
  | none =>
    have hx : xs = [] := by
      rcases hr with h | ⟨b, off, h, _⟩
      · cases xs with
        | nil => rfl
        | cons x l => simp [tv, p3] at h
      · cases h
    subst hx
    go_enter Try.func46, Try.ntmps46
    go_wp2
    go_ret
    exact ⟨none, 0, fun _ => False, rfl, ⟨Nat.le_refl _, Nat.zero_le _⟩, .inl rfl, fun _ h => h.elim, by (repeat' (first | (with_reducible exact Below.refl _ _) | (with_reducible refine bel_alloc ?_ ?_ _) | (with_reducible refine Below.setCell ?_ ?_ _) | (with_reducible refine below_drewN ?_ _) | (with_reducible refine Below.drew ?_) | (with_reducible exact Nat.le_refl _) | (with_reducible assumption) | omega | (simp only [World.size_alloc, World.size_setCell, World.size_drew]; omega) | (simp; omega) | (simp; done)))⟩
  | some ad =>
    go_enter Try.func46, Try.ntmps46
    go_wp2_with (at_builtin; refine wpList_append_new rfl (.tmp 5) (.tmp 6) _ rfl 47 i0 (.agg #[.int .i64 0, .int .i64 0, .int .i64 0]) 3 24 Try.underlying22 hi hz0 hz1 hz2 rfl (by omega) w.heap.size rfl (own_lit rfl) (some ad) xs.length c (tv xs) rfl hlen.out (hr.alloc _) hone.out (by unfold maxLen; omega) (by omega) (by simp) ?_; intro A' c' w' hO hS hA)
    go_ret
    obtain ⟨S, hW, hN⟩ := hO.wr.new w.heap.size (fun b h => h.1)
    have hl : ∀ b, b = w.heap.size → w.heap.size ≤ b := by intro b hb; omega
    exact ⟨A', c', S, rfl, hO.cap, hW, New.mk hN (by omega) (by simp), by (repeat' (first | (with_reducible exact Below.refl _ _) | (with_reducible refine bel_alloc ?_ ?_ _) | (with_reducible refine Below.setCell ?_ ?_ _) | (with_reducible refine below_drewN ?_ _) | (with_reducible refine Below.drew ?_) | (with_reducible refine bel_outS hS hl ?_ ?_) | (with_reducible exact Nat.le_refl _) | (with_reducible assumption) | omega | (simp only [World.size_alloc, World.size_setCell, World.size_drew]; omega) | (simp; omega) | (simp; done)))⟩
end Go.Proofs.Yteafpfmndjeanaa
