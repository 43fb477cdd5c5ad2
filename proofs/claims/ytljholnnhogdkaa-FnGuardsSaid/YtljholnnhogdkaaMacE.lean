/- MachineOk, of the program and of the reference. -/
import Derived.Test.YtljholnnhogdkaaMacC
import Derived.Test.YtljholnnhogdkaaMacD
import Derived.Deep.RegionHeld3
import Derived.Deep.DrawnRows
namespace Go.Proofs.Ytljholnnhogdkaa
open Go.ChangeShapes Go.WideShapes Go.ChangeAt Go.RowKit
set_option linter.unusedVariables false
set_option linter.unusedSimpArgs false
attribute [local go_sem ↓] Go.wp_at_zero Go.wp_at_succ
set_option maxRecDepth 100000 in
set_option maxHeartbeats 8000000 in
theorem machineOk_i (A : Option Addr) (c : Nat) (B : Option Addr) (d : Nat) (AE : Option Addr) (f : Nat) (xss : List (List Int)) (us : List Bool) (es : List En) (w : World) {B1 B2 B3 : Nat} (hr : Rd2 iv w B1 A xss) (hs : Rd w B2 B (bl us)) (ht : Rd w B3 AE (pv es)) (hn : MRows xss us es) (v : Bool) (hv : mkOkB xss us es = v) :
    Calls Try.prog 85 #[.agg #[.slice A xss.length c, .slice B us.length d, .slice AE es.length f]] w fun e w' => e = .returned (.bool v) ∧ Below w.heap.size w w' := by
  subst hv
  replace ht := ht.lt
  replace hs := hs.lt
  cases hf : fOkB xss us with
  | false =>
    have HR := Lib.hid (mk_f (es := es) hf)
    go_enter Try.func85, Try.ntmps85
    go_wp2_with fail
    refine (framesOk_i _ _ _ _ _ _ _ (hr.alloc _) (hs.alloc _) hn.1 hn.2.1 _ hf).mono ?_
    rintro e w1 ⟨rfl, hb1⟩
    clear hf
    go_wp2
    go_ret
    exact ⟨by rw [HR.out]; rfl, by (repeat' (first | (with_reducible exact Below.refl _ _) | (with_reducible refine bel_alloc ?_ ?_ _) | (with_reducible refine Below.setCell ?_ ?_ _) | (with_reducible refine below_drewN ?_ _) | (with_reducible refine Below.drew ?_) | (with_reducible refine bel_step hb1 ?_ ?_) | (with_reducible exact Nat.le_refl _) | (with_reducible assumption) | omega | (simp only [World.size_alloc, World.size_setCell, World.size_drew]; omega) | (simp; omega) | (simp; done)))⟩
  | true =>
  have hff := fOk_facts hf
  have hxl := hff.2.1
  have hul : us.length = xss.length := hff.2.2.1
  have HF := Lib.hid hf
  have HUL := Lib.hid hul
  have hus : us.length ≤ 32 := by omega
  clear hff hul
  cases htt : tOkB es (us.length : Int) with
  | false =>
    have HR := Lib.hid (mk_t (xss := xss) htt)
    have htt2 : tOkB es (us.length : Int) = false := by first | exact htt | (rw [← HUL.out]; exact htt)
    clear htt
    go_enter Try.func85, Try.ntmps85
    go_wp2_with fail
    refine (framesOk_i _ _ _ _ _ _ _ (hr.alloc _) (hs.alloc _) hn.1 hn.2.1 _ hf).mono ?_
    rintro e w1 ⟨rfl, hb1⟩
    have a0 : w1.cell? ⟨w.heap.size, 0, none⟩ = some (.slice A xss.length c) := keep hb1 (by simp [go_sem])
    have a1 : w1.cell? ⟨w.heap.size, 1, none⟩ = some (.slice B us.length d) := keep hb1 (by simp [go_sem])
    have a2 : w1.cell? ⟨w.heap.size, 2, none⟩ = some (.slice AE es.length f) := keep hb1 (by simp [go_sem])
    have ht1 := (ht.alloc _).below hb1
    clear hf
    go_wp2_with fail
    refine (tableOk_i _ _ _ _ _ ht1 hn.2.2 _ htt2).mono ?_
    rintro e w2 ⟨rfl, hb2⟩
    clear htt2
    go_wp2
    go_ret
    exact ⟨by rw [HR.out]; rfl, by (repeat' (first | (with_reducible exact Below.refl _ _) | (with_reducible refine bel_alloc ?_ ?_ _) | (with_reducible refine Below.setCell ?_ ?_ _) | (with_reducible refine below_drewN ?_ _) | (with_reducible refine Below.drew ?_) | (with_reducible refine bel_step hb1 ?_ ?_) | (with_reducible refine bel_step hb2 ?_ ?_) | (with_reducible exact Nat.le_refl _) | (with_reducible assumption) | omega | (simp only [World.size_alloc, World.size_setCell, World.size_drew]; omega) | (simp; omega) | (simp; done)))⟩
  | true =>
  have htt2 : tOkB es (us.length : Int) = true := by first | exact htt | (rw [← HUL.out]; exact htt)
  have HT := Lib.hid htt
  clear htt
  go_enter Try.func85, Try.ntmps85
  go_wp2_with fail
  refine (framesOk_i _ _ _ _ _ _ _ (hr.alloc _) (hs.alloc _) hn.1 hn.2.1 _ hf).mono ?_
  rintro e w1 ⟨rfl, hb1⟩
  have a0 : w1.cell? ⟨w.heap.size, 0, none⟩ = some (.slice A xss.length c) := keep hb1 (by simp [go_sem])
  have a1 : w1.cell? ⟨w.heap.size, 1, none⟩ = some (.slice B us.length d) := keep hb1 (by simp [go_sem])
  have a2 : w1.cell? ⟨w.heap.size, 2, none⟩ = some (.slice AE es.length f) := keep hb1 (by simp [go_sem])
  have ht1 := (ht.alloc _).below hb1
  have hs1 := (hs.alloc _).below hb1
  clear hf
  go_wp2_with fail
  refine (tableOk_i _ _ _ _ _ ht1 hn.2.2 _ htt2).mono ?_
  rintro e W0 ⟨rfl, hb2⟩
  replace ht1 := ht1.lt.below hb2
  replace hs1 := hs1.lt.below hb2
  replace a0 := keep hb2 a0
  replace a1 := keep hb2 a1
  replace a2 := keep hb2 a2
  have hW : Below w.heap.size w W0 := by (repeat' (first | (with_reducible exact Below.refl _ _) | (with_reducible refine bel_alloc ?_ ?_ _) | (with_reducible refine Below.setCell ?_ ?_ _) | (with_reducible refine below_drewN ?_ _) | (with_reducible refine Below.drew ?_) | (with_reducible refine bel_step hb1 ?_ ?_) | (with_reducible refine bel_step hb2 ?_ ?_) | (with_reducible exact Nat.le_refl _) | (with_reducible assumption) | omega | (simp only [World.size_alloc, World.size_setCell, World.size_drew]; omega) | (simp; omega) | (simp; done)))
  clear htt2 hr hs ht hb1 hb2
  have hne := hn.2.2
  clear hn
  go_wp2
  go_loopw [23] (fun v wr => ∃ k : Nat, k ≤ us.length ∧ v = .int .i64 k ∧ (∀ i (hi : i < us.length), i < k → us[i] = onB es (i : Nat)) ∧ Below W0.heap.size W0 wr) (fun v _ => us.length - (intOf v).toNat)
  case atStart => exact ⟨0, Nat.zero_le _, rfl, fun i _ hi => absurd hi (by omega), Below.refl _ _⟩
  case round =>
    obtain ⟨k, hk, rfl, hall, hbr⟩ := hrel
    have HA := Lib.hid hall
    clear hall
    have p0 := keep hbr a0
    have p1 := keep hbr a1
    have p2 := keep hbr a2
    have lp0 := lt_of_cell' p0
    by_cases hlt : k < us.length
    · obtain ⟨b2, off2, rfl, -, hu0⟩ := hs1.lt.bool hlt
      have hu := keep hbr hu0
      have lhu := lt_of_cell' hu
      have hte := ht1.lt.below hbr
      have HBAD := Lib.hid (show us[k] ≠ onB es (k : Nat) → mkOkB xss us es = false from mk_u hlt)
      have HOK := Lib.hid (show us[k] = onB es (k : Nat) → ∀ i (hi : i < us.length), i < k + 1 → us[i] = onB es (i : Nat) from fun h i hi hik => by
        by_cases e : i = k
        · subst e; exact h
        · exact HA.out i hi (by omega))
      clear hu0
      obtain ⟨on, hon⟩ : ∃ on, on = onB es (k : Nat) := ⟨_, rfl⟩
      have HON := Lib.hid hon.symm
      rw [← hon] at HBAD HOK
      clear hon
      generalize us[k] = u at *
      have i0 : (0 : Int) ≤ (k : Int) := by omega
      have i1 : (k : Int) < (us.length : Int) := by omega
      go_wp2_with fail
      refine (pagesOn_i _ _ _ _ _ hte hne _ HON.out).mono ?_
      rintro e w3 ⟨A2, m, c2, rfl, hm1, hm2, hb3⟩
      have hmi : decide ((0 : Int) < (m : Int)) = on := by rw [← hm1]; simp
      clear hm1
      cases u <;> cases on
      case false.false | true.true =>
        have HC := Lib.hid (HOK.out rfl)
        first | (have hmj : 0 < m := by simpa using hmi) | (have hmj : m = 0 := by simp at hmi; omega)
        try subst hmj
        clear hmi
        go_wp2
        go_roundw
        case rel => exact ⟨k + 1, by omega, by go_num, HC.out, bel_step hb3 hbr (Nat.le_refl _)⟩
        case measure => simp [intOf]; omega
      case false.true | true.false =>
        have HR := Lib.hid (HBAD.out (by decide))
        first | (have hmj : 0 < m := by simpa using hmi) | (have hmj : m = 0 := by simp at hmi; omega)
        try subst hmj
        clear hmi
        go_wp2
        go_ret
        exact ⟨by rw [HR.out]; rfl, by (repeat' (first | (with_reducible exact Below.refl _ _) | (with_reducible refine bel_alloc ?_ ?_ _) | (with_reducible refine Below.setCell ?_ ?_ _) | (with_reducible refine below_drewN ?_ _) | (with_reducible refine Below.drew ?_) | (with_reducible refine bel_step hb3 ?_ ?_) | (with_reducible refine bel_step hbr ?_ ?_) | (with_reducible refine bel_step hW ?_ ?_) | (with_reducible exact Nat.le_refl _) | (with_reducible assumption) | omega | (simp only [World.size_alloc, World.size_setCell, World.size_drew]; omega) | (simp; omega) | (simp; done)))⟩
    · have HR := Lib.hid (mk_all HF.out HT.out fun i hi => HA.out i hi (by omega))
      go_wp2
      go_ret
      exact ⟨by rw [HR.out]; rfl, by (repeat' (first | (with_reducible exact Below.refl _ _) | (with_reducible refine bel_alloc ?_ ?_ _) | (with_reducible refine Below.setCell ?_ ?_ _) | (with_reducible refine below_drewN ?_ _) | (with_reducible refine Below.drew ?_) | (with_reducible refine bel_step hbr ?_ ?_) | (with_reducible refine bel_step hW ?_ ?_) | (with_reducible exact Nat.le_refl _) | (with_reducible assumption) | omega | (simp only [World.size_alloc, World.size_setCell, World.size_drew]; omega) | (simp; omega) | (simp; done)))⟩
set_option maxRecDepth 100000 in
set_option maxHeartbeats 8000000 in
theorem machineOk_s (A : Option Addr) (c : Nat) (B : Option Addr) (d : Nat) (AE : Option Addr) (f : Nat) (xss : List (List Int)) (us : List Bool) (es : List En) (w : World) {B1 B2 B3 : Nat} (hr : Rd2 iv w B1 A xss) (hs : Rd w B2 B (bl us)) (ht : Rd w B3 AE (pv es)) (hn : MRows xss us es) (v : Bool) (hv : mkOkB xss us es = v) :
    Calls Try.prog 51 #[.agg #[.slice A xss.length c, .slice B us.length d, .slice AE es.length f]] w fun e w' => e = .returned (.bool v) ∧ Below w.heap.size w w' := by
  subst hv
  replace ht := ht.lt
  replace hs := hs.lt
  cases hf : fOkB xss us with
  | false =>
    have HR := Lib.hid (mk_f (es := es) hf)
    go_enter Try.func51, Try.ntmps51
    go_wp2_with fail
    refine (framesOk_s _ _ _ _ _ _ _ (hr.alloc _) (hs.alloc _) hn.1 hn.2.1 _ hf).mono ?_
    rintro e w1 ⟨rfl, hb1⟩
    clear hf
    go_wp2
    go_ret
    exact ⟨by rw [HR.out]; rfl, by (repeat' (first | (with_reducible exact Below.refl _ _) | (with_reducible refine bel_alloc ?_ ?_ _) | (with_reducible refine Below.setCell ?_ ?_ _) | (with_reducible refine below_drewN ?_ _) | (with_reducible refine Below.drew ?_) | (with_reducible refine bel_step hb1 ?_ ?_) | (with_reducible exact Nat.le_refl _) | (with_reducible assumption) | omega | (simp only [World.size_alloc, World.size_setCell, World.size_drew]; omega) | (simp; omega) | (simp; done)))⟩
  | true =>
  have hff := fOk_facts hf
  have hxl := hff.2.1
  have hul : us.length = xss.length := hff.2.2.1
  have HF := Lib.hid hf
  have HUL := Lib.hid hul
  have hus : us.length ≤ 32 := by omega
  clear hff hul
  cases htt : tOkB es (us.length : Int) with
  | false =>
    have HR := Lib.hid (mk_t (xss := xss) htt)
    have htt2 : tOkB es (xss.length : Int) = false := by first | exact htt | (rw [← HUL.out]; exact htt)
    clear htt
    go_enter Try.func51, Try.ntmps51
    go_wp2_with fail
    refine (framesOk_s _ _ _ _ _ _ _ (hr.alloc _) (hs.alloc _) hn.1 hn.2.1 _ hf).mono ?_
    rintro e w1 ⟨rfl, hb1⟩
    have a0 : w1.cell? ⟨w.heap.size, 0, none⟩ = some (.slice A xss.length c) := keep hb1 (by simp [go_sem])
    have a1 : w1.cell? ⟨w.heap.size, 1, none⟩ = some (.slice B us.length d) := keep hb1 (by simp [go_sem])
    have a2 : w1.cell? ⟨w.heap.size, 2, none⟩ = some (.slice AE es.length f) := keep hb1 (by simp [go_sem])
    have ht1 := (ht.alloc _).below hb1
    clear hf
    go_wp2_with fail
    refine (tableOk_s _ _ _ _ _ ht1 hn.2.2 _ htt2).mono ?_
    rintro e w2 ⟨rfl, hb2⟩
    clear htt2
    go_wp2
    go_ret
    exact ⟨by rw [HR.out]; rfl, by (repeat' (first | (with_reducible exact Below.refl _ _) | (with_reducible refine bel_alloc ?_ ?_ _) | (with_reducible refine Below.setCell ?_ ?_ _) | (with_reducible refine below_drewN ?_ _) | (with_reducible refine Below.drew ?_) | (with_reducible refine bel_step hb1 ?_ ?_) | (with_reducible refine bel_step hb2 ?_ ?_) | (with_reducible exact Nat.le_refl _) | (with_reducible assumption) | omega | (simp only [World.size_alloc, World.size_setCell, World.size_drew]; omega) | (simp; omega) | (simp; done)))⟩
  | true =>
  have htt2 : tOkB es (xss.length : Int) = true := by first | exact htt | (rw [← HUL.out]; exact htt)
  have HT := Lib.hid htt
  clear htt
  go_enter Try.func51, Try.ntmps51
  go_wp2_with fail
  refine (framesOk_s _ _ _ _ _ _ _ (hr.alloc _) (hs.alloc _) hn.1 hn.2.1 _ hf).mono ?_
  rintro e w1 ⟨rfl, hb1⟩
  have a0 : w1.cell? ⟨w.heap.size, 0, none⟩ = some (.slice A xss.length c) := keep hb1 (by simp [go_sem])
  have a1 : w1.cell? ⟨w.heap.size, 1, none⟩ = some (.slice B us.length d) := keep hb1 (by simp [go_sem])
  have a2 : w1.cell? ⟨w.heap.size, 2, none⟩ = some (.slice AE es.length f) := keep hb1 (by simp [go_sem])
  have ht1 := (ht.alloc _).below hb1
  have hs1 := (hs.alloc _).below hb1
  clear hf
  go_wp2_with fail
  refine (tableOk_s _ _ _ _ _ ht1 hn.2.2 _ htt2).mono ?_
  rintro e W0 ⟨rfl, hb2⟩
  replace ht1 := ht1.lt.below hb2
  replace hs1 := hs1.lt.below hb2
  replace a0 := keep hb2 a0
  replace a1 := keep hb2 a1
  replace a2 := keep hb2 a2
  have hW : Below w.heap.size w W0 := by (repeat' (first | (with_reducible exact Below.refl _ _) | (with_reducible refine bel_alloc ?_ ?_ _) | (with_reducible refine Below.setCell ?_ ?_ _) | (with_reducible refine below_drewN ?_ _) | (with_reducible refine Below.drew ?_) | (with_reducible refine bel_step hb1 ?_ ?_) | (with_reducible refine bel_step hb2 ?_ ?_) | (with_reducible exact Nat.le_refl _) | (with_reducible assumption) | omega | (simp only [World.size_alloc, World.size_setCell, World.size_drew]; omega) | (simp; omega) | (simp; done)))
  clear htt2 hr hs ht hb1 hb2
  have hne := hn.2.2
  clear hn
  go_wp2
  go_loopw [3] (fun v wr => ∃ k : Nat, k ≤ us.length ∧ v = .int .i64 k ∧ (∀ i (hi : i < us.length), i < k → us[i] = onB es (i : Nat)) ∧ Below W0.heap.size W0 wr) (fun v _ => us.length - (intOf v).toNat)
  case atStart => exact ⟨0, Nat.zero_le _, rfl, fun i _ hi => absurd hi (by omega), Below.refl _ _⟩
  case round =>
    obtain ⟨k, hk, rfl, hall, hbr⟩ := hrel
    have HA := Lib.hid hall
    clear hall
    have p0 := keep hbr a0
    have p1 := keep hbr a1
    have p2 := keep hbr a2
    have lp0 := lt_of_cell' p0
    by_cases hlt : k < us.length
    · obtain ⟨b2, off2, rfl, -, hu0⟩ := hs1.lt.bool hlt
      have hu := keep hbr hu0
      have lhu := lt_of_cell' hu
      have hte := ht1.lt.below hbr
      have HBAD := Lib.hid (show us[k] ≠ onB es (k : Nat) → mkOkB xss us es = false from mk_u hlt)
      have HOK := Lib.hid (show us[k] = onB es (k : Nat) → ∀ i (hi : i < us.length), i < k + 1 → us[i] = onB es (i : Nat) from fun h i hi hik => by
        by_cases e : i = k
        · subst e; exact h
        · exact HA.out i hi (by omega))
      clear hu0
      obtain ⟨on, hon⟩ : ∃ on, on = onB es (k : Nat) := ⟨_, rfl⟩
      have HON := Lib.hid hon.symm
      rw [← hon] at HBAD HOK
      clear hon
      generalize us[k] = u at *
      have i0 : (0 : Int) ≤ (k : Int) := by omega
      have i1 : (k : Int) < (us.length : Int) := by omega
      go_wp2_with fail
      have X0 : wr.drew.cell? ⟨w.heap.size, 1, none⟩ = some (.slice (some ⟨b2, off2, none⟩) us.length d) := p1
      have X1 : wr.drew.cell? ⟨w.heap.size, 2, none⟩ = some (.slice AE es.length f) := p2
      have X2 : wr.drew.cell? ⟨b2, off2 + k, none⟩ = some (.bool u) := hu
      have hted : Rd wr.drew wr.heap.size AE (pv es) := hte.lt
      go_region_held3 (fun w' => w'.cell? ⟨w.heap.size, 1, none⟩ = some (.slice (some ⟨b2, off2, none⟩) us.length d) ∧ w'.cell? ⟨w.heap.size, 2, none⟩ = some (.slice AE es.length f) ∧ w'.cell? ⟨b2, off2 + k, none⟩ = some (.bool u))
        (first | exact ⟨X0, X1, X2⟩ | exact ⟨Y0, Y1, Y2⟩)
        (first | (go_at_call 78; refine (pagesOn_s _ _ _ _ _ hted hne _ HON.out).mono ?_; rintro e w3 ⟨A2, m, c2, rfl, hm1, hm2, hb3'⟩; have Y0 := keep hb3' X0; have Y1 := keep hb3' X1; have Y2 := keep hb3' X2) | fail)
      have hb3 : Below wr.heap.size wr w3 := bel_step hb3' (Below.drew (Below.refl _ _)) (Nat.le_refl _)
      have hmi : decide ((0 : Int) < (m : Int)) = on := by rw [← hm1]; simp
      clear hm1
      cases u <;> cases on
      case false.false | true.true =>
        have HC := Lib.hid (HOK.out rfl)
        first | (have hmj : 0 < m := by simpa using hmi) | (have hmj : m = 0 := by simp at hmi; omega)
        try subst hmj
        clear hmi
        go_wp2
        go_roundw
        case rel => exact ⟨k + 1, by omega, by go_num, HC.out, bel_step hb3 hbr (Nat.le_refl _)⟩
        case measure => simp [intOf]; omega
      case false.true | true.false =>
        have HR := Lib.hid (HBAD.out (by decide))
        first | (have hmj : 0 < m := by simpa using hmi) | (have hmj : m = 0 := by simp at hmi; omega)
        try subst hmj
        clear hmi
        go_wp2
        go_ret
        exact ⟨by rw [HR.out]; rfl, by (repeat' (first | (with_reducible exact Below.refl _ _) | (with_reducible refine bel_alloc ?_ ?_ _) | (with_reducible refine Below.setCell ?_ ?_ _) | (with_reducible refine below_drewN ?_ _) | (with_reducible refine Below.drew ?_) | (with_reducible refine bel_step hb3 ?_ ?_) | (with_reducible refine bel_step hbr ?_ ?_) | (with_reducible refine bel_step hW ?_ ?_) | (with_reducible exact Nat.le_refl _) | (with_reducible assumption) | omega | (simp only [World.size_alloc, World.size_setCell, World.size_drew]; omega) | (simp; omega) | (simp; done)))⟩
    · have HR := Lib.hid (mk_all HF.out HT.out fun i hi => HA.out i hi (by omega))
      go_wp2
      go_ret
      exact ⟨by rw [HR.out]; rfl, by (repeat' (first | (with_reducible exact Below.refl _ _) | (with_reducible refine bel_alloc ?_ ?_ _) | (with_reducible refine Below.setCell ?_ ?_ _) | (with_reducible refine below_drewN ?_ _) | (with_reducible refine Below.drew ?_) | (with_reducible refine bel_step hbr ?_ ?_) | (with_reducible refine bel_step hW ?_ ?_) | (with_reducible exact Nat.le_refl _) | (with_reducible assumption) | omega | (simp only [World.size_alloc, World.size_setCell, World.size_drew]; omega) | (simp; omega) | (simp; done)))⟩
end Go.Proofs.Ytljholnnhogdkaa
