/- Is a number in a list: l08Has of the reference, slices.Contains. -/
import Derived.Test.YtmfomflmbhognaaNum
import Derived.Test.YtmfomflmbhognaaMem
namespace Go.Proofs.Ytmfomflmbhognaa
open Go.ChangeShapes Go.WideShapes Go.ChangeAt Go.RowKit
set_option linter.unusedVariables false

def hasI (xs : List Int) (a : Int) : Bool := xs.any fun x => x == a
theorem hasI_yes {xs : List Int} {a : Int} {k : Nat} (hk : k < xs.length) (h : (xs[k] == a) = true) : hasI xs a = true :=
  List.any_eq_true.2 ⟨xs[k], List.getElem_mem hk, h⟩
theorem hasI_no {xs : List Int} {a : Int} (h : ∀ j (hj : j < xs.length), (xs[j] == a) = false) : hasI xs a = false := by
  rw [hasI, List.any_eq_false]
  intro x hx
  obtain ⟨j, hj, rfl⟩ := List.getElem_of_mem hx
  simp [h j hj]
theorem hasI_iff {xs : List Int} {a : Int} : hasI xs a = true ↔ a ∈ xs := by simp [hasI]
set_option maxHeartbeats 1000000 in
theorem l08Has_s (A : Option Addr) (n c : Nat) (xs : List Int) (a : Int) (w : World) {B : Nat} (hr : Rd w B A (iv xs)) (hl : xs.length = n) (hn : n ≤ 1048576000) {v : Bool} (hv : hasI xs a = v) :
    Calls Try.prog 45 #[.slice A n c, .int .i64 a] w fun e w' => e = .returned (.bool v) ∧ w' = w := by
  subst hl hv
  go_enter Try.func45, Try.ntmps45
  go_wp2
  go_loop [5] (fun v => ∃ k : Nat, k ≤ xs.length ∧ v = .int .i64 k ∧ (∀ j (hj : j < xs.length), j < k → (xs[j] == a) = false)) (fun v => xs.length - (intOf v).toNat)
  case atStart => exact ⟨0, Nat.zero_le _, rfl, fun j _ hj => absurd hj (by omega)⟩
  case round =>
    obtain ⟨k, hk, rfl, hall⟩ := hrel
    have HA := Lib.hid hall
    clear hall
    by_cases hlt : k < xs.length
    · obtain ⟨b, off, rfl, -, hc0⟩ := hr.int hlt
      obtain ⟨x, hx⟩ : ∃ x, x = xs[k] := ⟨_, rfl⟩
      have HI := Lib.hid (show (xs[k] == a) = (x == a) by rw [hx])
      rw [← hx] at hc0
      clear hx
      cases h1 : (x == a) with
      | true =>
        have HR := Lib.hid (hasI_yes (a := a) hlt (by rw [HI.out, h1]))
        go_wp2
        go_ret
        exact ⟨by rw [HR.out]; rfl, rfl⟩
      | false =>
        have HN := Lib.hid (show (xs[k] == a) = false by rw [HI.out, h1])
        go_wp2
        go_round
        case rel =>
          refine ⟨k + 1, by omega, by go_num, fun j hj hjk => ?_⟩
          by_cases e : j = k
          · subst e; exact HN.out
          · exact HA.out j hj (by omega)
        case measure => simp [intOf]; omega
    · have HR := Lib.hid (hasI_no (xs := xs) (a := a) fun j hj => HA.out j hj (by omega))
      go_wp2
      go_ret
      exact ⟨by rw [HR.out]; rfl, rfl⟩
def IdxI (b : Bool) (w : World) (e : Ending) (w' : World) : Prop := ∃ r : Int, e = .returned (.int .i64 r) ∧ decide (0 ≤ r) = b ∧ w' = w
set_option maxHeartbeats 1000000 in
theorem index_i (A : Option Addr) (n c : Nat) (xs : List Int) (a : Int) (w : World) {B : Nat} (hr : Rd w B A (iv xs)) (hl : xs.length = n) (hn : n ≤ 1048576000) {v : Bool} (hv : hasI xs a = v) :
    Calls Try.prog 65 #[.slice A n c, .int .i64 a] w (IdxI v w) := by
  subst hl hv
  go_enter Try.func65, Try.ntmps65
  go_wp2
  go_loop [8] (fun v => ∃ k : Nat, k ≤ xs.length ∧ v = .int .i64 k ∧ (∀ j (hj : j < xs.length), j < k → (xs[j] == a) = false)) (fun v => xs.length - (intOf v).toNat)
  case atStart => exact ⟨0, Nat.zero_le _, rfl, fun j _ hj => absurd hj (by omega)⟩
  case round =>
    obtain ⟨k, hk, rfl, hall⟩ := hrel
    have HA := Lib.hid hall
    clear hall
    by_cases hlt : k < xs.length
    · obtain ⟨b, off, rfl, -, hc0⟩ := hr.int hlt
      obtain ⟨x, hx⟩ : ∃ x, x = xs[k] := ⟨_, rfl⟩
      have HI := Lib.hid (show (xs[k] == a) = (a == x) by rw [hx]; exact Bool.beq_comm)
      rw [← hx] at hc0
      clear hx
      cases h1 : (a == x) with
      | true =>
        have HR := Lib.hid (hasI_yes (a := a) hlt (by rw [HI.out, h1]))
        go_wp2
        go_ret
        exact ⟨_, rfl, by rw [HR.out]; simp, rfl⟩
      | false =>
        have HN := Lib.hid (show (xs[k] == a) = false by rw [HI.out, h1])
        go_wp2
        go_round
        case rel =>
          refine ⟨k + 1, by omega, by go_num, fun j hj hjk => ?_⟩
          by_cases e : j = k
          · subst e; exact HN.out
          · exact HA.out j hj (by omega)
        case measure => simp [intOf]; omega
    · have HR := Lib.hid (hasI_no (xs := xs) (a := a) fun j hj => HA.out j hj (by omega))
      go_wp2
      go_ret
      exact ⟨_, rfl, by rw [HR.out]; rfl, rfl⟩
theorem contains_i (A : Option Addr) (n c : Nat) (xs : List Int) (a : Int) (w : World) {B : Nat} (hr : Rd w B A (iv xs)) (hl : xs.length = n) (hn : n ≤ 1048576000) {v : Bool} (hv : hasI xs a = v) :
    Calls Try.prog 49 #[.slice A n c, .int .i64 a] w fun e w' => e = .returned (.bool v) ∧ w' = w := by
  go_enter Try.func49, Try.ntmps49
  go_wp2_with fail
  refine (index_i _ _ _ _ a _ hr hl hn hv).mono ?_
  rintro e w2 ⟨r, rfl, hr0, rfl⟩
  go_wp2
  go_ret
  exact ⟨by rw [← hr0]; rfl, rfl⟩
end Go.Proofs.Ytmfomflmbhognaa
