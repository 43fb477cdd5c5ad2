/- CacheHas, of the program and of the reference. -/
import Derived.Test.YtmfomflmbhognaaCacheA
import Derived.Test.YtmfomflmbhognaaHasI
namespace Go.Proofs.Ytmfomflmbhognaa
open Go.ChangeShapes Go.WideShapes Go.ChangeAt Go.RowKit
set_option linter.unusedVariables false

def hasC (xss : List (List Int)) (a : Int) : Bool := xss.any fun l => hasI l a
theorem hasC_yes {xss : List (List Int)} {a : Int} {k : Nat} (hk : k < xss.length) (h : hasI xss[k] a = true) : hasC xss a = true :=
  List.any_eq_true.2 ⟨xss[k], List.getElem_mem hk, h⟩
theorem hasC_no {xss : List (List Int)} {a : Int} (h : ∀ j (hj : j < xss.length), hasI xss[j] a = false) : hasC xss a = false := by
  rw [hasC, List.any_eq_false]
  intro x hx
  obtain ⟨j, hj, rfl⟩ := List.getElem_of_mem hx
  simp [h j hj]
set_option maxHeartbeats 1000000 in
theorem cacheHas_s (A : Option Addr) (c : Nat) (xss : List (List Int)) (a : Int) (w : World) {B : Nat} (hr : Rd2 iv w B A xss) (hn : Rows xss) :
    Calls Try.prog 19 #[.agg #[.slice A xss.length c], .int .i64 a] w fun e w' => e = .returned (.bool (hasC xss a)) ∧ Below w.heap.size w w' := by
  have hn1 := hn.1
  have HM := Lib.hid hn.2
  clear hn
  go_enter Try.func19, Try.ntmps19
  go_wp2
  have hr0 := hr.alloc (.cells #[.slice A xss.length c] 28)
  clear hr
  go_loop [5] (fun v => ∃ k : Nat, k ≤ xss.length ∧ v = .int .i64 k ∧ (∀ j (hj : j < xss.length), j < k → hasI xss[j] a = false)) (fun v => xss.length - (intOf v).toNat)
  case atStart => exact ⟨0, Nat.zero_le _, rfl, fun j _ hj => absurd hj (by omega)⟩
  case round =>
    obtain ⟨k, hk, rfl, hall⟩ := hrel
    have HA := Lib.hid hall
    clear hall
    by_cases hlt : k < xss.length
    · obtain ⟨b, off, A1, c1, rfl, -, hc, hrx⟩ := hr0.row hlt
      have hlm := HM.out _ (List.getElem_mem hlt)
      obtain ⟨q, hq⟩ : ∃ q, q = xss[k] := ⟨_, rfl⟩
      have HI := Lib.hid (show hasI xss[k] a = hasI q a by rw [hq])
      rw [← hq] at hc hrx hlm
      clear hq
      cases h1 : hasI q a with
      | true =>
        have HR := Lib.hid (hasC_yes (a := a) hlt (by rw [HI.out, h1]))
        have HV := Lib.hid h1
        clear h1
        go_wp2_with (go_at_call 45; refine (l08Has_s _ _ _ _ _ _ hrx rfl (by omega) HV.out).mono ?_; rintro e w2 ⟨rfl, rfl⟩)
        go_ret
        exact ⟨by rw [HR.out]; rfl, by (repeat' (first | (with_reducible exact Below.refl _ _) | (with_reducible refine bel_alloc ?_ ?_ _) | (with_reducible refine Below.setCell ?_ ?_ _) | (with_reducible refine below_drewN ?_ _) | (with_reducible refine Below.drew ?_) | (with_reducible exact Nat.le_refl _) | (with_reducible assumption) | omega | (simp only [World.size_alloc, World.size_setCell, World.size_drew]; omega) | (simp; omega) | (simp; done)))⟩
      | false =>
        have HN := Lib.hid (show hasI xss[k] a = false by rw [HI.out, h1])
        have HV := Lib.hid h1
        clear h1
        go_wp2_with (go_at_call 45; refine (l08Has_s _ _ _ _ _ _ hrx rfl (by omega) HV.out).mono ?_; rintro e w2 ⟨rfl, rfl⟩)
        go_round
        case rel =>
          refine ⟨k + 1, by omega, by go_num, fun j hj hjk => ?_⟩
          by_cases e : j = k
          · subst e; exact HN.out
          · exact HA.out j hj (by omega)
        case measure => simp [intOf]; omega
    · have HR := Lib.hid (hasC_no (xss := xss) (a := a) fun j hj => HA.out j hj (by omega))
      go_wp2
      go_ret
      exact ⟨by rw [HR.out]; rfl, by (repeat' (first | (with_reducible exact Below.refl _ _) | (with_reducible refine bel_alloc ?_ ?_ _) | (with_reducible refine Below.setCell ?_ ?_ _) | (with_reducible refine below_drewN ?_ _) | (with_reducible refine Below.drew ?_) | (with_reducible exact Nat.le_refl _) | (with_reducible assumption) | omega | (simp only [World.size_alloc, World.size_setCell, World.size_drew]; omega) | (simp; omega) | (simp; done)))⟩
theorem cacheHas1_i (A : Option Addr) (c : Nat) (xs : List Int) (a : Int) (q : Nat) (w : World) {B : Nat} (hr : Rd w B A (iv xs)) (hn : xs.length ≤ 1048576) (hq : w.cell? ⟨q, 0, none⟩ = some (.int .i64 a)) {v : Bool} (hv : hasI xs a = v) :
    Calls Try.prog 48 #[.slice A xs.length c, .pointer (some ⟨q, 0, none⟩)] w fun e w' => e = .returned (.bool v) ∧ w' = w := by
  go_enter Try.func48, Try.ntmps48
  go_wp2_with fail
  refine (contains_i _ _ _ _ _ _ hr rfl (by omega) hv).mono ?_
  rintro e w2 ⟨rfl, rfl⟩
  go_wp2
  go_ret
  exact ⟨rfl, rfl⟩
set_option maxHeartbeats 2000000 in
theorem indexRow_i (A : Option Addr) (c : Nat) (xss : List (List Int)) (a : Int) (q : Nat) (w : World) {B : Nat} (hr : Rd2 iv w B A xss) (hn : Rows xss) (hq : w.cell? ⟨q, 0, none⟩ = some (.int .i64 a)) :
    Calls Try.prog 64 #[.slice A xss.length c, .func (.func 48) #[] #[.pointer (some ⟨q, 0, none⟩)]] w (IdxI (hasC xss a) w) := by
  have hn1 := hn.1
  have HM := Lib.hid hn.2
  clear hn
  go_enter Try.func64, Try.ntmps64
  go_wp2
  go_loop [8] (fun v => ∃ k : Nat, k ≤ xss.length ∧ v = .int .i64 k ∧ (∀ j (hj : j < xss.length), j < k → hasI xss[j] a = false)) (fun v => xss.length - (intOf v).toNat)
  case atStart => exact ⟨0, Nat.zero_le _, rfl, fun j _ hj => absurd hj (by omega)⟩
  case round =>
    obtain ⟨k, hk, rfl, hall⟩ := hrel
    have HA := Lib.hid hall
    clear hall
    by_cases hlt : k < xss.length
    · obtain ⟨b, off, A1, c1, rfl, -, hc, hrx⟩ := hr.row hlt
      have hlm := HM.out _ (List.getElem_mem hlt)
      obtain ⟨r, hr'⟩ : ∃ q, q = xss[k] := ⟨_, rfl⟩
      have HI := Lib.hid (show hasI xss[k] a = hasI r a by rw [hr'])
      rw [← hr'] at hc hrx hlm
      clear hr'
      cases h1 : hasI r a with
      | true =>
        have HR := Lib.hid (hasC_yes (a := a) hlt (by rw [HI.out, h1]))
        have HV := Lib.hid h1
        clear h1
        go_wp2_with (go_at_call 48; refine (cacheHas1_i _ _ _ _ _ _ hrx hlm hq HV.out).mono ?_; rintro e w2 ⟨rfl, rfl⟩)
        go_ret
        exact ⟨_, rfl, by rw [HR.out]; simp, rfl⟩
      | false =>
        have HN := Lib.hid (show hasI xss[k] a = false by rw [HI.out, h1])
        have HV := Lib.hid h1
        clear h1
        go_wp2_with (go_at_call 48; refine (cacheHas1_i _ _ _ _ _ _ hrx hlm hq HV.out).mono ?_; rintro e w2 ⟨rfl, rfl⟩)
        go_round
        case rel =>
          refine ⟨k + 1, by omega, by go_num, fun j hj hjk => ?_⟩
          by_cases e : j = k
          · subst e; exact HN.out
          · exact HA.out j hj (by omega)
        case measure => simp [intOf]; omega
    · have HR := Lib.hid (hasC_no (xss := xss) (a := a) fun j hj => HA.out j hj (by omega))
      go_wp2
      go_ret
      exact ⟨_, rfl, by rw [HR.out]; rfl, rfl⟩
set_option maxHeartbeats 2000000 in
theorem cacheHas_i (A : Option Addr) (c : Nat) (xss : List (List Int)) (a : Int) (w : World) {B : Nat} (hr : Rd2 iv w B A xss) (hn : Rows xss) :
    Calls Try.prog 21 #[.agg #[.slice A xss.length c], .int .i64 a] w fun e w' => e = .returned (.bool (hasC xss a)) ∧ Below w.heap.size w w' := by
  go_enter Try.func21, Try.ntmps21
  go_wp2_with fail
  go_in
  go_wp2_with fail
  refine (indexRow_i _ _ _ a _ _ ((hr.alloc _).alloc _) hn (by simp [go_sem])).mono ?_
  rintro e w2 ⟨r, rfl, hr0, rfl⟩
  go_wp2
  go_ret
  exact ⟨by rw [← hr0]; rfl, by (repeat' (first | (with_reducible exact Below.refl _ _) | (with_reducible refine bel_alloc ?_ ?_ _) | (with_reducible refine Below.setCell ?_ ?_ _) | (with_reducible refine below_drewN ?_ _) | (with_reducible refine Below.drew ?_) | (with_reducible exact Nat.le_refl _) | (with_reducible assumption) | omega | (simp only [World.size_alloc, World.size_setCell, World.size_drew]; omega) | (simp; omega) | (simp; done)))⟩
end Go.Proofs.Ytmfomflmbhognaa
