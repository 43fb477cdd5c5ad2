/- staleOk, l22One, QuarOk, of the program and of the reference. -/
import Derived.Test.YteafpfmndjeanaaQuarB
import Derived.Lib.QuietBelow
namespace Go.Proofs.Yteafpfmndjeanaa
open Go.ChangeShapes Go.WideShapes Go.ChangeAt Go.RowKit
set_option linter.unusedVariables false

def stOne (x : St) : Bool := btw x.2.1 0 3 && decide (0 ≤ x.1) && decide (0 ≤ x.2.2)
def lastS (xs : List St) : Int := (xs.getD (xs.length - 1) (0, 0, 0)).2.2
def stOk (bf : List St) (x : St) : Bool := stOne x && !hasA bf x.1 && (decide (bf.length = 0) || decide (lastS bf ≤ x.2.2))
def okQ (xs : List St) (k : Nat) : Bool := stOk (xs.take k) (xs.getD k (0, 0, 0))
def qOkB (r : Int) (xs : List St) : Bool := (List.range xs.length).all (okQ xs) && btw r 0 500 && decide (qsum xs ≤ r)
theorem qOkB_bad {r : Int} {xs : List St} {k : Nat} (hk : k < xs.length) (h : okQ xs k = false) : qOkB r xs = false := by
  have : (List.range xs.length).all (okQ xs) = false := by
    rw [List.all_eq_false]
    exact ⟨k, List.mem_range.2 hk, by simp [h]⟩
  simp [qOkB, this]
theorem qOkB_all {r : Int} {xs : List St} (h : ∀ j, j < xs.length → okQ xs j = true) : qOkB r xs = (btw r 0 500 && decide (qsum xs ≤ r)) := by
  have : (List.range xs.length).all (okQ xs) = true := by
    rw [List.all_eq_true]
    exact fun j hj => h j (List.mem_range.1 hj)
  simp [qOkB, this]
theorem okQ_at {xs : List St} {k : Nat} (h : k < xs.length) : okQ xs k = stOk (xs.take k) xs[k] := by
  simp [okQ, List.getD_eq_getElem?_getD, List.getElem?_eq_getElem h]
theorem lastS_take {xs : List St} {k : Nat} (h : k + 1 ≤ xs.length) : lastS (xs.take (k + 1)) = xs[k].2.2 := by
  simp [lastS, List.getD_eq_getElem?_getD, List.length_take, Nat.min_eq_left h, List.getElem?_take, List.getElem?_eq_getElem (show k < xs.length by omega)]
set_option maxHeartbeats 2000000 in
theorem l22One_s (x y z : Int) (w : World) (v : Bool) (hv : stOne (x, y, z) = v) :
    Calls Try.prog 38 #[.agg #[.int .i64 x, .int .i64 y, .int .i64 z]] w fun e w' => e = .returned (.bool v) ∧ Below w.heap.size w w' := by
  subst hv
  cases hb : btw y 0 3 <;> by_cases hx : 0 ≤ x <;> by_cases hz : 0 ≤ z
  all_goals
    have HR := Lib.hid (show stOne (x, y, z) = (btw y 0 3 && decide (0 ≤ x) && decide (0 ≤ z)) from rfl)
    go_enter Try.func38, Try.ntmps38
    go_wp2_with (go_at_call 33; refine (l01In_q _ _ _ _).mono ?_; rintro e w2 ⟨rfl, rfl⟩)
    go_ret
    exact ⟨by rw [HR.out, hb]; simp [hx, hz], by (repeat' (first | (with_reducible exact Below.refl _ _) | (with_reducible refine bel_alloc ?_ ?_ _) | (with_reducible refine Below.setCell ?_ ?_ _) | (with_reducible refine below_drewN ?_ _) | (with_reducible refine Below.drew ?_) | (with_reducible exact Nat.le_refl _) | (with_reducible assumption) | omega | (simp only [World.size_alloc, World.size_setCell, World.size_drew]; omega) | (simp; omega) | (simp; done)))⟩
set_option maxHeartbeats 4000000 in
theorem staleOk_i (A : Option Addr) (n c : Nat) (bf : List St) (x y z : Int) (w : World) (v : Bool) {B : Nat} (hr : Rd w B A (tv bf)) (hl : bf.length = n) (hn : n ≤ 1048576) (hv : stOk bf (x, y, z) = v) :
    Calls Try.prog 40 #[.slice A n c, .agg #[.int .i64 x, .int .i64 y, .int .i64 z]] w fun e w' => e = .returned (.bool v) ∧ Below w.heap.size w w' := by
  subst hv
  cases hb : btw y 0 3 with
  | false =>
    have HR := Lib.hid (show stOk bf (x, y, z) = false by simp [stOk, stOne, hb])
    go_enter Try.func40, Try.ntmps40
    go_wp2_with (go_at_call 52; refine (classOk_i _ _).mono ?_; rintro e w2 ⟨rfl, rfl⟩)
    go_ret
    exact ⟨by rw [HR.out]; rfl, by (repeat' (first | (with_reducible exact Below.refl _ _) | (with_reducible refine bel_alloc ?_ ?_ _) | (with_reducible refine Below.setCell ?_ ?_ _) | (with_reducible refine below_drewN ?_ _) | (with_reducible refine Below.drew ?_) | (with_reducible exact Nat.le_refl _) | (with_reducible assumption) | omega | (simp only [World.size_alloc, World.size_setCell, World.size_drew]; omega) | (simp; omega) | (simp; done)))⟩
  | true =>
  by_cases hx : x < 0
  · have HR := Lib.hid (show stOk bf (x, y, z) = false by simp [stOk, stOne]; omega)
    go_enter Try.func40, Try.ntmps40
    go_wp2_with (go_at_call 52; refine (classOk_i _ _).mono ?_; rintro e w2 ⟨rfl, rfl⟩)
    go_ret
    exact ⟨by rw [HR.out]; rfl, by (repeat' (first | (with_reducible exact Below.refl _ _) | (with_reducible refine bel_alloc ?_ ?_ _) | (with_reducible refine Below.setCell ?_ ?_ _) | (with_reducible refine below_drewN ?_ _) | (with_reducible refine Below.drew ?_) | (with_reducible exact Nat.le_refl _) | (with_reducible assumption) | omega | (simp only [World.size_alloc, World.size_setCell, World.size_drew]; omega) | (simp; omega) | (simp; done)))⟩
  by_cases hz : z < 0
  · have HR := Lib.hid (show stOk bf (x, y, z) = false by simp [stOk, stOne]; omega)
    go_enter Try.func40, Try.ntmps40
    go_wp2_with (go_at_call 52; refine (classOk_i _ _).mono ?_; rintro e w2 ⟨rfl, rfl⟩)
    go_ret
    exact ⟨by rw [HR.out]; rfl, by (repeat' (first | (with_reducible exact Below.refl _ _) | (with_reducible refine bel_alloc ?_ ?_ _) | (with_reducible refine Below.setCell ?_ ?_ _) | (with_reducible refine below_drewN ?_ _) | (with_reducible refine Below.drew ?_) | (with_reducible exact Nat.le_refl _) | (with_reducible assumption) | omega | (simp only [World.size_alloc, World.size_setCell, World.size_drew]; omega) | (simp; omega) | (simp; done)))⟩
  have h1 : stOne (x, y, z) = true := by simp [stOne, hb]; omega
  cases hh : hasA bf x with
  | true =>
    have HR := Lib.hid (show stOk bf (x, y, z) = false by simp [stOk, hh])
    have HC := Lib.hid (fun W (h : Rd W B A (tv bf)) => hasStale_i A n c bf x W h hl hn)
    simp only [hh] at HC
    clear h1 hh
    go_enter Try.func40, Try.ntmps40
    go_wp2_with (first | (go_at_call 52; refine (classOk_i _ _).mono ?_; rintro e w2 ⟨rfl, rfl⟩) | (go_at_call 37; refine (HC.out _ (hr.alloc _)).mono ?_; rintro e w2 ⟨rfl, hb2⟩))
    go_ret
    exact ⟨by rw [HR.out]; rfl, by (repeat' (first | (with_reducible exact Below.refl _ _) | (with_reducible refine bel_alloc ?_ ?_ _) | (with_reducible refine Below.setCell ?_ ?_ _) | (with_reducible refine below_drewN ?_ _) | (with_reducible refine Below.drew ?_) | (with_reducible refine bel_step hb2 ?_ ?_) | (with_reducible exact Nat.le_refl _) | (with_reducible assumption) | omega | (simp only [World.size_alloc, World.size_setCell, World.size_drew]; omega) | (simp; omega) | (simp; done)))⟩
  | false =>
    have HC := Lib.hid (fun W (h : Rd W B A (tv bf)) => hasStale_i A n c bf x W h hl hn)
    simp only [hh] at HC
    rcases Nat.eq_zero_or_pos n with h0 | h0
    · have HR := Lib.hid (show stOk bf (x, y, z) = true by simp [stOk, h1, hh, hl, h0])
      clear h1 hh
      subst h0
      go_enter Try.func40, Try.ntmps40
      go_wp2_with (first | (go_at_call 52; refine (classOk_i _ _).mono ?_; rintro e w2 ⟨rfl, rfl⟩) | (go_at_call 37; refine (HC.out _ (hr.alloc _)).mono ?_; rintro e w2 ⟨rfl, hb2⟩))
      go_quiet (fail)
      go_wp2
      go_ret
      exact ⟨by rw [HR.out]; rfl, below_drewN (by (repeat' (first | (with_reducible exact Below.refl _ _) | (with_reducible refine bel_alloc ?_ ?_ _) | (with_reducible refine Below.setCell ?_ ?_ _) | (with_reducible refine below_drewN ?_ _) | (with_reducible refine Below.drew ?_) | (with_reducible refine bel_step hb2 ?_ ?_) | (with_reducible exact Nat.le_refl _) | (with_reducible assumption) | omega | (simp only [World.size_alloc, World.size_setCell, World.size_drew]; omega) | (simp; omega) | (simp; done)))) _⟩
    · obtain ⟨m, hmn⟩ : ∃ m, m = n - 1 := ⟨n - 1, rfl⟩
      have hm1 : m < n := by omega
      obtain ⟨b, off, rfl, -, hc0, hc1, hc2⟩ := hr.trip (k := m) (by omega)
      obtain ⟨t, ht⟩ : ∃ t, t = (bf[m]'(by omega)).2.2 := ⟨_, rfl⟩
      have HS := Lib.hid (show stOk bf (x, y, z) = decide (t ≤ z) by
        have : lastS bf = t := by
          have h2 := lastS_take (xs := bf) (k := m) (by omega)
          rw [List.take_of_length_le (by omega)] at h2
          rw [h2, ht]
        simp [stOk, h1, hh, hl, this]
        omega)
      rw [← ht] at hc2
      have hdr := hr.alloc (.cells #[.int .i64 x, .int .i64 y, .int .i64 z] 47)
      have hcz : IntKind.i64.wrap ((n : Int) - 1) = (m : Int) := by rw [IntWalk.i64_in _ (by omega)]; omega
      have hz1 : ((n : Int) == 0) = false := by simp; omega
      clear h1 hh ht hc0 hc1 hmn
      go_enter Try.func40, Try.ntmps40
      go_wp2_with (first | (go_at_call 52; refine (classOk_i _ _).mono ?_; rintro e w2 ⟨rfl, rfl⟩) | (go_at_call 37; refine (HC.out _ hdr).mono ?_; rintro e w2 ⟨rfl, hb2⟩; have k0 := keep hb2 (cell_al hc2 _); have e2 : w2.cell? ⟨w.heap.size, 2, none⟩ = some (.int .i64 z) := keep hb2 (by simp [go_sem])))
      go_quiet (fail)
      go_wp2
      go_ret
      exact ⟨by rw [HS.out]; rfl, below_drewN (by (repeat' (first | (with_reducible exact Below.refl _ _) | (with_reducible refine bel_alloc ?_ ?_ _) | (with_reducible refine Below.setCell ?_ ?_ _) | (with_reducible refine below_drewN ?_ _) | (with_reducible refine Below.drew ?_) | (with_reducible refine bel_step hb2 ?_ ?_) | (with_reducible exact Nat.le_refl _) | (with_reducible assumption) | omega | (simp only [World.size_alloc, World.size_setCell, World.size_drew]; omega) | (simp; omega) | (simp; done)))) _⟩
end Go.Proofs.Yteafpfmndjeanaa
