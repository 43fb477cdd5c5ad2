/- RangeHas, of the program and of the reference. -/
import Derived.Test.YtfdpplamebmdhaaRangeS
namespace Go.Proofs.Ytfdpplamebmdhaa
open Go.ChangeShapes Go.WideShapes Go.ChangeAt Go.RowKit
set_option linter.unusedVariables false

def inR (x : Int × Int) (p : Int) : Bool := decide (x.1 ≤ p) && decide (p < wrap64 (x.1 + x.2))
def hasR (xs : List (Int × Int)) (p : Int) : Bool := xs.any (inR · p)
theorem hasR_yes {xs : List (Int × Int)} {p : Int} {k : Nat} (hk : k < xs.length) (h : inR xs[k] p = true) : hasR xs p = true :=
  List.any_eq_true.2 ⟨xs[k], List.getElem_mem hk, h⟩
theorem hasR_no {xs : List (Int × Int)} {p : Int} (h : ∀ j (hj : j < xs.length), inR xs[j] p = false) : hasR xs p = false := by
  rw [hasR, List.any_eq_false]
  intro x hx
  obtain ⟨j, hj, rfl⟩ := List.getElem_of_mem hx
  simp [h j hj]
set_option maxHeartbeats 2000000 in
theorem rangeHas_s (A : Option Addr) (c : Nat) (xs : List (Int × Int)) (p : Int) (w : World) {B : Nat} (hr : Rd w B A (pv xs)) (hn : xs.length ≤ 1048576) :
    Calls Try.prog 19 #[.slice A xs.length c, .int .i64 p] w fun e w' => e = .returned (.bool (hasR xs p)) ∧ Below w.heap.size w w' := by
  go_enter Try.func19, Try.ntmps19
  go_wp2
  go_loopw [5] (fun v wr => ∃ k : Nat, k ≤ xs.length ∧ v = .int .i64 k ∧ (∀ j (hj : j < xs.length), j < k → inR xs[j] p = false) ∧ Below w.heap.size w wr) (fun v _ => xs.length - (intOf v).toNat)
  case atStart => exact ⟨0, Nat.zero_le _, rfl, fun j _ hj => absurd hj (by omega), Below.refl _ _⟩
  case round =>
    obtain ⟨k, hk, rfl, hall, hbr⟩ := hrel
    have HA := Lib.hid hall
    clear hall
    by_cases hlt : k < xs.length
    · obtain ⟨b, off, rfl, -, hc0, hc1⟩ := (hr.lt.below hbr).pair hlt
      obtain ⟨x, hx⟩ : ∃ x, x = xs[k].1 := ⟨_, rfl⟩
      obtain ⟨y, hy⟩ : ∃ y, y = xs[k].2 := ⟨_, rfl⟩
      have HI := Lib.hid (show inR xs[k] p = (decide (x ≤ p) && decide (p < wrap64 (x + y))) by rw [inR, hx, hy])
      rw [← hx] at hc0
      rw [← hy] at hc1
      clear hx hy
      have i0 : (0 : Int) ≤ (k : Int) := by omega
      have i1 : (k : Int) < (xs.length : Int) := by omega
      have hw64 : IntKind.i64.wrap (x + y) = wrap64 (x + y) := by rw [IntKind.wrap_i64, wrap64]
      by_cases h1 : x ≤ p
      · generalize hz : wrap64 (x + y) = z at *
        by_cases h2 : p < z
        · have HR := Lib.hid (hasR_yes (p := p) hlt (by rw [HI.out]; simp [h1, h2]))
          clear hz
          go_wp2
          go_quiet (fail)
          go_wp2
          go_ret
          exact ⟨by rw [HR.out]; rfl, below_drewN hbr _⟩
        · have HR := Lib.hid (show inR xs[k] p = false by rw [HI.out]; simp [h2])
          have hd : decide (p < z) = false := by simpa using h2
          clear hz
          go_wp2
          go_quiet (fail)
          go_wp2
          go_roundw
          case rel =>
            refine ⟨k + 1, by omega, by go_num, fun j hj hjk => ?_, below_drewN hbr _⟩
            by_cases e : j = k
            · subst e; exact HR.out
            · exact HA.out j hj (by omega)
          case measure => simp [intOf]; omega
      · have HR := Lib.hid (show inR xs[k] p = false by rw [HI.out]; simp [h1])
        have hd : decide (x ≤ p) = false := by simpa using h1
        go_wp2
        go_quiet (fail)
        go_wp2
        go_roundw
        case rel =>
          refine ⟨k + 1, by omega, by go_num, fun j hj hjk => ?_, below_drewN hbr _⟩
          by_cases e : j = k
          · subst e; exact HR.out
          · exact HA.out j hj (by omega)
        case measure => simp [intOf]; omega
    · have HR := Lib.hid (hasR_no (xs := xs) (p := p) fun j hj => HA.out j hj (by omega))
      go_wp2
      go_ret
      exact ⟨by rw [HR.out]; rfl, hbr⟩

theorem inR_any (a b p : Int) (q : Nat) (w : World) (hq : w.cell? ⟨q, 0, none⟩ = some (.int .i64 p)) :
    Calls Try.prog 37 #[.agg #[.int .i64 a, .int .i64 b], .pointer (some ⟨q, 0, none⟩)] w fun e w' => e = .returned (.bool (inR (a, b) p)) ∧ Below w.heap.size w w' := by
  have hql := lt_of_cell' hq
  by_cases h1 : a ≤ p
  · have HR := Lib.hid (show inR (a, b) p = decide (p < wrap64 (a + b)) by simp [inR, h1])
    go_enter Try.func37, Try.ntmps37
    go_wp2
    go_ret
    exact ⟨by rw [HR.out]; rfl, by (repeat' (first | (with_reducible exact Below.refl _ _) | (with_reducible refine bel_alloc ?_ ?_ _) | (with_reducible refine Below.setCell ?_ ?_ _) | (with_reducible refine below_drewN ?_ _) | (with_reducible refine Below.drew ?_) | (with_reducible exact Nat.le_refl _) | (with_reducible assumption) | omega | (simp only [World.size_alloc, World.size_setCell, World.size_drew]; omega) | (simp; omega) | (simp; done)))⟩
  · have HR := Lib.hid (show inR (a, b) p = false by simp [inR, h1])
    go_enter Try.func37, Try.ntmps37
    go_wp2
    go_ret
    exact ⟨by rw [HR.out]; rfl, by (repeat' (first | (with_reducible exact Below.refl _ _) | (with_reducible refine bel_alloc ?_ ?_ _) | (with_reducible refine Below.setCell ?_ ?_ _) | (with_reducible refine below_drewN ?_ _) | (with_reducible refine Below.drew ?_) | (with_reducible exact Nat.le_refl _) | (with_reducible assumption) | omega | (simp only [World.size_alloc, World.size_setCell, World.size_drew]; omega) | (simp; omega) | (simp; done)))⟩
def IdxOut (b : Bool) (w : World) (e : Ending) (w' : World) : Prop := ∃ r : Int, e = .returned (.int .i64 r) ∧ decide (0 ≤ r) = b ∧ Below w.heap.size w w'
set_option maxHeartbeats 2000000 in
theorem indexR_any (A : Option Addr) (c : Nat) (xs : List (Int × Int)) (p : Int) (q : Nat) (w : World) {B : Nat} (hr : Rd w B A (pv xs)) (hn : xs.length ≤ 1048576) (hq : w.cell? ⟨q, 0, none⟩ = some (.int .i64 p)) :
    Calls Try.prog 49 #[.slice A xs.length c, .func (.func 37) #[] #[.pointer (some ⟨q, 0, none⟩)]] w (IdxOut (hasR xs p) w) := by
  go_enter Try.func49, Try.ntmps49
  go_wp2
  go_loopw [8] (fun v wr => ∃ k : Nat, k ≤ xs.length ∧ v = .int .i64 k ∧ (∀ j (hj : j < xs.length), j < k → inR xs[j] p = false) ∧ Below w.heap.size w wr) (fun v _ => xs.length - (intOf v).toNat)
  case atStart => exact ⟨0, Nat.zero_le _, rfl, fun j _ hj => absurd hj (by omega), Below.refl _ _⟩
  case round =>
    obtain ⟨k, hk, rfl, hall, hbr⟩ := hrel
    have HA := Lib.hid hall
    clear hall
    by_cases hlt : k < xs.length
    · obtain ⟨b, off, rfl, -, hc0, hc1⟩ := (hr.lt.below hbr).pair hlt
      obtain ⟨x, hx⟩ : ∃ x, x = xs[k].1 := ⟨_, rfl⟩
      obtain ⟨y, hy⟩ : ∃ y, y = xs[k].2 := ⟨_, rfl⟩
      have HI := Lib.hid (show inR xs[k] p = inR (x, y) p by rw [hx, hy])
      rw [← hx] at hc0
      rw [← hy] at hc1
      clear hx hy
      have hq1 := keep hbr hq
      cases h1 : inR (x, y) p with
      | true =>
        have HR := Lib.hid (hasR_yes (p := p) hlt (by rw [HI.out, h1]))
        go_wp2_with (go_at_call 37; refine (inR_any _ _ _ _ _ hq1).mono ?_; rintro e w2 ⟨rfl, hb2⟩)
        go_ret
        exact ⟨_, rfl, by rw [HR.out]; simp, bel_step hb2 hbr (Nat.le_refl _)⟩
      | false =>
        go_wp2_with (go_at_call 37; refine (inR_any _ _ _ _ _ hq1).mono ?_; rintro e w2 ⟨rfl, hb2⟩)
        go_roundw
        case rel =>
          refine ⟨k + 1, by omega, by go_num, fun j hj hjk => ?_, bel_step hb2 hbr (Nat.le_refl _)⟩
          by_cases e : j = k
          · subst e; rw [HI.out, h1]
          · exact HA.out j hj (by omega)
        case measure => simp [intOf]; omega
    · have HR := Lib.hid (hasR_no (xs := xs) (p := p) fun j hj => HA.out j hj (by omega))
      go_wp2
      go_ret
      exact ⟨_, rfl, by rw [HR.out]; rfl, hbr⟩
set_option maxHeartbeats 2000000 in
theorem rangeHas_i (A : Option Addr) (c : Nat) (xs : List (Int × Int)) (p : Int) (w : World) {B : Nat} (hr : Rd w B A (pv xs)) (hn : xs.length ≤ 1048576) :
    Calls Try.prog 20 #[.slice A xs.length c, .int .i64 p] w fun e w' => e = .returned (.bool (hasR xs p)) ∧ Below w.heap.size w w' := by
  go_enter Try.func20, Try.ntmps20
  go_wp2_with fail
  go_in
  go_wp2_with fail
  refine (indexR_any _ _ _ p _ _ (hr.alloc _) hn (by simp [go_sem])).mono ?_
  rintro e w2 ⟨r, rfl, hr0, hb2⟩
  go_wp2
  go_ret
  exact ⟨by rw [← hr0]; rfl, by (repeat' (first | (with_reducible exact Below.refl _ _) | (with_reducible refine bel_alloc ?_ ?_ _) | (with_reducible refine Below.setCell ?_ ?_ _) | (with_reducible refine below_drewN ?_ _) | (with_reducible refine Below.drew ?_) | (with_reducible refine bel_step hb2 ?_ ?_) | (with_reducible exact Nat.le_refl _) | (with_reducible assumption) | omega | (simp only [World.size_alloc, World.size_setCell, World.size_drew]; omega) | (simp; omega) | (simp; done)))⟩
end Go.Proofs.Ytfdpplamebmdhaa
