/- quarCells, hasStale, staleOk and their fellows of the reference. -/
import Derived.Test.YteafpfmndjeanaaStaleS
import Derived.Test.YteafpfmndjeanaaCls
namespace Go.Proofs.Yteafpfmndjeanaa
open Go.ChangeShapes Go.WideShapes Go.ChangeAt Go.RowKit
set_option linter.unusedVariables false

abbrev St := Int × Int × Int
def qsum (xs : List St) : Int := (xs.map fun x => cs x.2.1).sum
theorem qsum_succ {xs : List St} {k : Nat} (h : k < xs.length) : qsum (xs.take (k + 1)) = qsum (xs.take k) + cs xs[k].2.1 := by
  rw [qsum, List.take_succ_eq_append_getElem h, List.map_append, List.sum_append]
  simp [qsum]
theorem qsum_bd (xs : List St) : 0 ≤ qsum xs ∧ qsum xs ≤ 8 * xs.length := by
  induction xs with
  | nil => simp [qsum]
  | cons x l ih =>
    have := cs_bd x.2.1
    simp only [qsum, List.map_cons, List.sum_cons, List.length_cons] at *
    omega
set_option maxHeartbeats 1000000 in
theorem l22Cells_s (A : Option Addr) (n c : Nat) (xs : List St) (w : World) {B : Nat} (hr : Rd w B A (tv xs)) (hl : xs.length = n) (hn : n ≤ 2097152) :
    Calls Try.prog 39 #[.slice A n c] w fun e w' => e = .returned (.int .i64 (qsum xs)) ∧ w' = w := by
  subst hl
  go_enter Try.func39, Try.ntmps39
  go_wp2
  go_loop [3, 4] (fun u v => ∃ k : Nat, k ≤ xs.length ∧ v = .int .i64 k ∧ u = .int .i64 (qsum (xs.take k))) (fun _ v => xs.length - (intOf v).toNat)
  case atStart => exact ⟨0, Nat.zero_le _, rfl, rfl⟩
  case round =>
    obtain ⟨k, hk, rfl, rfl⟩ := hrel
    by_cases hlt : k < xs.length
    · obtain ⟨b, off, rfl, -, hc0, hc1, hc2⟩ := hr.trip hlt
      have HS := Lib.hid (qsum_succ hlt)
      obtain ⟨y, hy⟩ : ∃ y, y = xs[k].2.1 := ⟨_, rfl⟩
      rw [← hy] at hc1 HS
      have hq := qsum_bd (xs.take k)
      have hql : (xs.take k).length ≤ k := by simp; omega
      have hcs := cs_bd y
      clear hy hc0 hc2
      generalize qsum (xs.take k) = q at *
      have CL := Lib.hid (fun W => classSize_s y W)
      generalize cs y = z at *
      go_wp2_with (go_at_call 51; refine (CL.out _).mono ?_; rintro e w2 ⟨rfl, rfl⟩)
      go_round
      case rel => exact ⟨k + 1, by omega, by go_num, by rw [HS.out]⟩
      case measure => simp [intOf]; omega
    · have hk : k = xs.length := by omega
      subst hk
      go_wp2
      go_ret
      exact ⟨rfl, rfl⟩
set_option maxHeartbeats 1000000 in
theorem quarCells_i (A : Option Addr) (n c : Nat) (xs : List St) (w : World) {B : Nat} (hr : Rd w B A (tv xs)) (hl : xs.length = n) (hn : n ≤ 2097152) :
    Calls Try.prog 41 #[.slice A n c] w fun e w' => e = .returned (.int .i64 (qsum xs)) ∧ Below w.heap.size w w' := by
  subst hl
  go_enter Try.func41, Try.ntmps41
  go_wp2
  go_loopw [3, 8] (fun u v wr => ∃ k : Nat, k ≤ xs.length ∧ v = .int .i64 k ∧ u = .int .i64 (qsum (xs.take k)) ∧ Below w.heap.size w wr) (fun _ v _ => xs.length - (intOf v).toNat)
  case atStart => exact ⟨0, Nat.zero_le _, rfl, rfl, Below.refl _ _⟩
  case round =>
    obtain ⟨k, hk, rfl, rfl, hbr⟩ := hrel
    by_cases hlt : k < xs.length
    · obtain ⟨b, off, rfl, -, hc0, hc1, hc2⟩ := (hr.lt.below hbr).trip hlt
      have HS := Lib.hid (qsum_succ hlt)
      obtain ⟨x, hx⟩ : ∃ y, y = xs[k].1 := ⟨_, rfl⟩
      obtain ⟨y, hy⟩ : ∃ y, y = xs[k].2.1 := ⟨_, rfl⟩
      obtain ⟨z, hz⟩ : ∃ y, y = xs[k].2.2 := ⟨_, rfl⟩
      rw [← hx] at hc0
      rw [← hy] at hc1 HS
      rw [← hz] at hc2
      have hq := qsum_bd (xs.take k)
      have hql : (xs.take k).length ≤ k := by simp; omega
      have hcs := cs_bd y
      have hbl := lt_of_cell' hc0
      clear hx hy hz
      generalize qsum (xs.take k) = q at *
      have CL := Lib.hid (fun W => classSize_i y W)
      generalize cs y = t at *
      go_wp2_with (go_at_call 53; refine (CL.out _).mono ?_; rintro e w2 ⟨rfl, rfl⟩)
      go_roundw
      case rel => exact ⟨k + 1, by omega, by go_num, by rw [HS.out], by (repeat' (first | (with_reducible exact Below.refl _ _) | (with_reducible refine bel_alloc ?_ ?_ _) | (with_reducible refine Below.setCell ?_ ?_ _) | (with_reducible refine below_drewN ?_ _) | (with_reducible refine Below.drew ?_) | (with_reducible refine bel_step hbr ?_ ?_) | (with_reducible exact Nat.le_refl _) | (with_reducible assumption) | omega | (simp only [World.size_alloc, World.size_setCell, World.size_drew]; omega) | (simp; omega) | (simp; done)))⟩
      case measure => simp [intOf]; omega
    · have hk : k = xs.length := by omega
      subst hk
      go_wp2
      go_ret
      exact ⟨by rw [List.take_length]; rfl, hbr⟩

def hasA (xs : List St) (a : Int) : Bool := xs.any fun x => x.1 == a
theorem hasA_yes {xs : List St} {a : Int} {k : Nat} (hk : k < xs.length) (h : (xs[k].1 == a) = true) : hasA xs a = true :=
  List.any_eq_true.2 ⟨xs[k], List.getElem_mem hk, h⟩
theorem hasA_no {xs : List St} {a : Int} (h : ∀ j (hj : j < xs.length), (xs[j].1 == a) = false) : hasA xs a = false := by
  rw [hasA, List.any_eq_false]
  intro x hx
  obtain ⟨j, hj, rfl⟩ := List.getElem_of_mem hx
  simp [h j hj]
theorem hasStale1_i (x y z a : Int) (q : Nat) (w : World) (hq : w.cell? ⟨q, 0, none⟩ = some (.int .i64 a)) :
    Calls Try.prog 50 #[.agg #[.int .i64 x, .int .i64 y, .int .i64 z], .pointer (some ⟨q, 0, none⟩)] w fun e w' => e = .returned (.bool (x == a)) ∧ Below w.heap.size w w' := by
  have hql := lt_of_cell' hq
  go_enter Try.func50, Try.ntmps50
  go_wp2
  go_ret
  exact ⟨rfl, by (repeat' (first | (with_reducible exact Below.refl _ _) | (with_reducible refine bel_alloc ?_ ?_ _) | (with_reducible refine Below.setCell ?_ ?_ _) | (with_reducible refine below_drewN ?_ _) | (with_reducible refine Below.drew ?_) | (with_reducible exact Nat.le_refl _) | (with_reducible assumption) | omega | (simp only [World.size_alloc, World.size_setCell, World.size_drew]; omega) | (simp; omega) | (simp; done)))⟩
def IdxOut (b : Bool) (w : World) (e : Ending) (w' : World) : Prop := ∃ r : Int, e = .returned (.int .i64 r) ∧ decide (0 ≤ r) = b ∧ Below w.heap.size w w'
set_option maxHeartbeats 2000000 in
theorem indexStale_any (A : Option Addr) (n c : Nat) (xs : List St) (a : Int) (q : Nat) (w : World) {B : Nat} (hr : Rd w B A (tv xs)) (hl : xs.length = n) (hn : n ≤ 1048576) (hq : w.cell? ⟨q, 0, none⟩ = some (.int .i64 a)) :
    Calls Try.prog 55 #[.slice A n c, .func (.func 50) #[] #[.pointer (some ⟨q, 0, none⟩)]] w (IdxOut (hasA xs a) w) := by
  subst hl
  go_enter Try.func55, Try.ntmps55
  go_wp2
  go_loopw [8] (fun v wr => ∃ k : Nat, k ≤ xs.length ∧ v = .int .i64 k ∧ (∀ j (hj : j < xs.length), j < k → (xs[j].1 == a) = false) ∧ Below w.heap.size w wr) (fun v _ => xs.length - (intOf v).toNat)
  case atStart => exact ⟨0, Nat.zero_le _, rfl, fun j _ hj => absurd hj (by omega), Below.refl _ _⟩
  case round =>
    obtain ⟨k, hk, rfl, hall, hbr⟩ := hrel
    have HA := Lib.hid hall
    clear hall
    by_cases hlt : k < xs.length
    · obtain ⟨b, off, rfl, -, hc0, hc1, hc2⟩ := (hr.lt.below hbr).trip hlt
      obtain ⟨x, hx⟩ : ∃ x, x = xs[k].1 := ⟨_, rfl⟩
      obtain ⟨y, hy⟩ : ∃ y, y = xs[k].2.1 := ⟨_, rfl⟩
      obtain ⟨z, hz⟩ : ∃ y, y = xs[k].2.2 := ⟨_, rfl⟩
      have HI := Lib.hid (show (xs[k].1 == a) = (x == a) by rw [hx])
      rw [← hx] at hc0
      rw [← hy] at hc1
      rw [← hz] at hc2
      clear hx hy hz
      have hq1 := keep hbr hq
      cases h1 : (x == a) with
      | true =>
        have HR := Lib.hid (hasA_yes (a := a) hlt (by rw [HI.out, h1]))
        have HX := Lib.hid (fun W h => hasStale1_i x y z a q W h)
        rw [h1] at HX
        clear h1
        go_wp2_with (go_at_call 50; refine (HX.out _ hq1).mono ?_; rintro e w2 ⟨rfl, hb2⟩)
        go_ret
        exact ⟨_, rfl, by rw [HR.out]; simp, bel_step hb2 hbr (Nat.le_refl _)⟩
      | false =>
        have HN := Lib.hid (show (xs[k].1 == a) = false by rw [HI.out, h1])
        have HX := Lib.hid (fun W h => hasStale1_i x y z a q W h)
        rw [h1] at HX
        clear h1
        go_wp2_with (go_at_call 50; refine (HX.out _ hq1).mono ?_; rintro e w2 ⟨rfl, hb2⟩)
        go_roundw
        case rel =>
          refine ⟨k + 1, by omega, by go_num, fun j hj hjk => ?_, bel_step hb2 hbr (Nat.le_refl _)⟩
          by_cases e : j = k
          · subst e; exact HN.out
          · exact HA.out j hj (by omega)
        case measure => simp [intOf]; omega
    · have HR := Lib.hid (hasA_no (xs := xs) (a := a) fun j hj => HA.out j hj (by omega))
      go_wp2
      go_ret
      exact ⟨_, rfl, by rw [HR.out]; rfl, hbr⟩
set_option maxHeartbeats 2000000 in
theorem hasStale_i (A : Option Addr) (n c : Nat) (xs : List St) (a : Int) (w : World) {B : Nat} (hr : Rd w B A (tv xs)) (hl : xs.length = n) (hn : n ≤ 1048576) :
    Calls Try.prog 37 #[.slice A n c, .int .i64 a] w fun e w' => e = .returned (.bool (hasA xs a)) ∧ Below w.heap.size w w' := by
  go_enter Try.func37, Try.ntmps37
  go_wp2_with fail
  go_in
  go_wp2_with fail
  refine (indexStale_any _ _ _ _ a _ _ (hr.alloc _) hl hn (by simp [go_sem])).mono ?_
  rintro e w2 ⟨r, rfl, hr0, hb2⟩
  go_wp2
  go_ret
  exact ⟨by rw [← hr0]; rfl, by (repeat' (first | (with_reducible exact Below.refl _ _) | (with_reducible refine bel_alloc ?_ ?_ _) | (with_reducible refine Below.setCell ?_ ?_ _) | (with_reducible refine below_drewN ?_ _) | (with_reducible refine Below.drew ?_) | (with_reducible refine bel_step hb2 ?_ ?_) | (with_reducible exact Nat.le_refl _) | (with_reducible assumption) | omega | (simp only [World.size_alloc, World.size_setCell, World.size_drew]; omega) | (simp; omega) | (simp; done)))⟩
set_option maxHeartbeats 2000000 in
theorem quarHas_i (r : Int) (A : Option Addr) (n c : Nat) (xs : List St) (a : Int) (w : World) {B : Nat} (hr : Rd w B A (tv xs)) (hl : xs.length = n) (hn : n ≤ 1048576) :
    Calls Try.prog 18 #[.agg #[.int .i64 r, .slice A n c], .int .i64 a] w fun e w' => e = .returned (.bool (hasA xs a)) ∧ Below w.heap.size w w' := by
  go_enter Try.func18, Try.ntmps18
  go_wp2_with fail
  refine (hasStale_i _ _ _ _ a _ (hr.alloc _) hl hn).mono ?_
  rintro e w2 ⟨rfl, hb2⟩
  go_wp2
  go_ret
  exact ⟨rfl, by (repeat' (first | (with_reducible exact Below.refl _ _) | (with_reducible refine bel_alloc ?_ ?_ _) | (with_reducible refine Below.setCell ?_ ?_ _) | (with_reducible refine below_drewN ?_ _) | (with_reducible refine Below.drew ?_) | (with_reducible refine bel_step hb2 ?_ ?_) | (with_reducible exact Nat.le_refl _) | (with_reducible assumption) | omega | (simp only [World.size_alloc, World.size_setCell, World.size_drew]; omega) | (simp; omega) | (simp; done)))⟩
set_option maxHeartbeats 2000000 in
theorem quarHas_s (r : Int) (A : Option Addr) (n c : Nat) (xs : List St) (a : Int) (w : World) {B : Nat} (hr : Rd w B A (tv xs)) (hl : xs.length = n) (hn : n ≤ 1048576) :
    Calls Try.prog 16 #[.agg #[.int .i64 r, .slice A n c], .int .i64 a] w fun e w' => e = .returned (.bool (hasA xs a)) ∧ Below w.heap.size w w' := by
  subst hl
  go_enter Try.func16, Try.ntmps16
  go_wp2
  go_loop [5] (fun v => ∃ k : Nat, k ≤ xs.length ∧ v = .int .i64 k ∧ (∀ j (hj : j < xs.length), j < k → (xs[j].1 == a) = false)) (fun v => xs.length - (intOf v).toNat)
  case atStart => exact ⟨0, Nat.zero_le _, rfl, fun j _ hj => absurd hj (by omega)⟩
  case round =>
    obtain ⟨k, hk, rfl, hall⟩ := hrel
    have HA := Lib.hid hall
    clear hall
    by_cases hlt : k < xs.length
    · obtain ⟨b, off, rfl, -, hc0, hc1, hc2⟩ := hr.trip hlt
      have hbl := lt_of_cell' hc0
      obtain ⟨x, hx⟩ : ∃ x, x = xs[k].1 := ⟨_, rfl⟩
      have HI := Lib.hid (show (xs[k].1 == a) = (x == a) by rw [hx])
      rw [← hx] at hc0
      clear hx hc1 hc2
      cases h1 : (x == a) with
      | true =>
        have HR := Lib.hid (hasA_yes (a := a) hlt (by rw [HI.out, h1]))
        go_wp2
        go_ret
        exact ⟨by rw [HR.out]; rfl, by (repeat' (first | (with_reducible exact Below.refl _ _) | (with_reducible refine bel_alloc ?_ ?_ _) | (with_reducible refine Below.setCell ?_ ?_ _) | (with_reducible refine below_drewN ?_ _) | (with_reducible refine Below.drew ?_) | (with_reducible exact Nat.le_refl _) | (with_reducible assumption) | omega | (simp only [World.size_alloc, World.size_setCell, World.size_drew]; omega) | (simp; omega) | (simp; done)))⟩
      | false =>
        have HN := Lib.hid (show (xs[k].1 == a) = false by rw [HI.out, h1])
        go_wp2
        go_round
        case rel =>
          refine ⟨k + 1, by omega, by go_num, fun j hj hjk => ?_⟩
          by_cases e : j = k
          · subst e; exact HN.out
          · exact HA.out j hj (by omega)
        case measure => simp [intOf]; omega
    · have HR := Lib.hid (hasA_no (xs := xs) (a := a) fun j hj => HA.out j hj (by omega))
      go_wp2
      go_ret
      exact ⟨by rw [HR.out]; rfl, by (repeat' (first | (with_reducible exact Below.refl _ _) | (with_reducible refine bel_alloc ?_ ?_ _) | (with_reducible refine Below.setCell ?_ ?_ _) | (with_reducible refine below_drewN ?_ _) | (with_reducible refine Below.drew ?_) | (with_reducible exact Nat.le_refl _) | (with_reducible assumption) | omega | (simp only [World.size_alloc, World.size_setCell, World.size_drew]; omega) | (simp; omega) | (simp; done)))⟩
end Go.Proofs.Yteafpfmndjeanaa
