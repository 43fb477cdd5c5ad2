/- QuarOk, of the reference. -/
import Derived.Test.YteafpfmndjeanaaQuarD
namespace Go.Proofs.Yteafpfmndjeanaa
open Go.ChangeShapes Go.WideShapes Go.ChangeAt Go.RowKit
set_option linter.unusedVariables false

set_option maxHeartbeats 8000000 in
theorem quarOk_s (r : Int) (A : Option Addr) (n c : Nat) (xs : List St) (w : World) (v : Bool) {B : Nat} (hr : Rd w B A (tv xs)) (hl : xs.length = n) (hn : n ≤ 1048576) (hcap : n ≤ c ∧ c ≤ maxLen) (hv : qOkB r xs = v) :
    Calls Try.prog 19 #[.agg #[.int .i64 r, .slice A n c]] w fun e w' => e = .returned (.bool v) ∧ Below w.heap.size w w' := by
  subst hl hv
  have hcap1 := hcap.1
  go_enter Try.func19, Try.ntmps19
  go_wp2
  have hr0 := hr.alloc (.cells #[.int .i64 r, .slice A xs.length c] 24)
  have q0 : (w.alloc (.cells #[.int .i64 r, .slice A xs.length c] 24)).cell? ⟨w.heap.size, 0, none⟩ = some (.int .i64 r) := by simp [go_sem]
  have q1 : (w.alloc (.cells #[.int .i64 r, .slice A xs.length c] 24)).cell? ⟨w.heap.size, 1, none⟩ = some (.slice A xs.length c) := by simp [go_sem]
  have hW : Below w.heap.size w (w.alloc (.cells #[.int .i64 r, .slice A xs.length c] 24)) := by (repeat' (first | (with_reducible exact Below.refl _ _) | (with_reducible refine bel_alloc ?_ ?_ _) | (with_reducible refine Below.setCell ?_ ?_ _) | (with_reducible refine below_drewN ?_ _) | (with_reducible refine Below.drew ?_) | (with_reducible exact Nat.le_refl _) | (with_reducible assumption) | omega | (simp only [World.size_alloc, World.size_setCell, World.size_drew]; omega) | (simp; omega) | (simp; done)))
  generalize w.alloc (.cells #[.int .i64 r, .slice A xs.length c] 24) = W0 at *
  clear hr
  go_loopw [3] (fun v wr => ∃ k : Nat, k ≤ xs.length ∧ v = .int .i64 k ∧ (∀ j, j < k → okQ xs j = true) ∧ Below W0.heap.size W0 wr) (fun v _ => xs.length - (intOf v).toNat)
  case atStart => exact ⟨0, Nat.zero_le _, rfl, fun j hj => absurd hj (by omega), Below.refl _ _⟩
  case round =>
    obtain ⟨k, hk, rfl, hall, hbr⟩ := hrel
    have HA := Lib.hid hall
    have hrr := hr0.lt.below hbr
    have p0 := keep hbr q0
    have p1 := keep hbr q1
    have hp0 := lt_of_cell' p0
    have hbw := bel_step hbr hW (Nat.le_refl _)
    clear hall q0 q1 hr0 hW
    by_cases hlt : k < xs.length
    · obtain ⟨b, off, rfl, -, hc0, hc1, hc2⟩ := hrr.trip hlt
      have hbl := lt_of_cell' hc0
      obtain ⟨x, hx⟩ : ∃ x, x = xs[k].1 := ⟨_, rfl⟩
      obtain ⟨y, hy⟩ : ∃ y, y = xs[k].2.1 := ⟨_, rfl⟩
      obtain ⟨z, hz⟩ : ∃ y, y = xs[k].2.2 := ⟨_, rfl⟩
      have HK := Lib.hid (show okQ xs k = stOk (xs.take k) (x, y, z) by rw [okQ_at hlt, hx, hy, hz])
      rw [← hx] at hc0
      rw [← hy] at hc1
      rw [← hz] at hc2
      clear hx hy hz
      have hrt := hrr
      rw [tv_take xs k] at hrt
      replace hrt := hrt.pre
      have htl : (xs.take k).length = k := by simp; omega
      have htn : k ≤ 1048576 := by omega
      have hkc : k ≤ c := by omega
      have htl := Lib.hid htl
      have i0 : (0 : Int) ≤ (k : Int) := by omega
      have i1 : (k : Int) < (xs.length : Int) := by omega
      go_wp2
      have BB := bel_alloc hbw (Nat.le_refl _) (.cells #[.int .i64 x, .int .i64 y, .int .i64 z] 47)
      have z0 : (wr.alloc (.cells #[.int .i64 x, .int .i64 y, .int .i64 z] 47)).cell? ⟨wr.heap.size, 0, none⟩ = some (.int .i64 x) := by simp [go_sem]
      have z1 : (wr.alloc (.cells #[.int .i64 x, .int .i64 y, .int .i64 z] 47)).cell? ⟨wr.heap.size, 1, none⟩ = some (.int .i64 y) := by simp [go_sem]
      have z2 : (wr.alloc (.cells #[.int .i64 x, .int .i64 y, .int .i64 z] 47)).cell? ⟨wr.heap.size, 2, none⟩ = some (.int .i64 z) := by simp [go_sem]
      replace p1 := cell_al p1 (.cells #[.int .i64 x, .int .i64 y, .int .i64 z] 47)
      replace hrt := hrt.alloc (.cells #[.int .i64 x, .int .i64 y, .int .i64 z] 47)
      replace hrr := hrr.alloc (.cells #[.int .i64 x, .int .i64 y, .int .i64 z] 47)
      clear hc0 hc1 hc2 hbl p0 hbw
      have hWr : Below wr.heap.size wr (wr.alloc (.cells #[.int .i64 x, .int .i64 y, .int .i64 z] 47)) := by (repeat' (first | (with_reducible exact Below.refl _ _) | (with_reducible refine bel_alloc ?_ ?_ _) | (with_reducible refine Below.setCell ?_ ?_ _) | (with_reducible refine below_drewN ?_ _) | (with_reducible refine Below.drew ?_) | (with_reducible exact Nat.le_refl _) | (with_reducible assumption) | omega | (simp only [World.size_alloc, World.size_setCell, World.size_drew]; omega) | (simp; omega) | (simp; done)))
      generalize wr.alloc (.cells #[.int .i64 x, .int .i64 y, .int .i64 z] 47) = W at *
      have k0 := cell_regrown z0
      have k1 := cell_regrown z1
      have k2 := cell_regrown z2
      have k3 := cell_regrown p1
      clear z0 z1 z2 p1
      cases h1 : stOne (x, y, z)
      · have hbad := Lib.hid (show stOk (xs.take k) (x, y, z) = false by simp [stOk, h1])
        have cE := fun d os => Calls.regrown_of (l22One_s x y z (Go.Sort.grow (redrawn W d) os) _ h1)
        clear h1
        refine wp_region_quiet_below (by kernel_rfl) (by kernel_rfl) ?_
        repeat (first | go_big_quiet_step (first | (with_reducible exact cE _ _)) | quiet_step (first | (with_reducible exact cE _ _)))
        refine wpQuiet_nil ?_
        intro _ hw_q
        obtain ⟨⟨dq, osq⟩, hw_q'⟩ := hw_q
        subst hw_q'
        have hbq := below_regrown W dq osq
        generalize Go.Sort.grow (redrawn W dq) osq = wq at *
        go_wp2
        go_ret
        exact ⟨by rw [qOkB_bad hlt (by rw [HK.out]; exact hbad.out)]; rfl, by (repeat' (first | (with_reducible exact Below.refl _ _) | (with_reducible refine bel_alloc ?_ ?_ _) | (with_reducible refine Below.setCell ?_ ?_ _) | (with_reducible refine below_drewN ?_ _) | (with_reducible refine Below.drew ?_) | (with_reducible refine bel_step hbq ?_ ?_) | (with_reducible refine bel_step BB ?_ ?_) | (with_reducible exact Nat.le_refl _) | (with_reducible assumption) | omega | (simp only [World.size_alloc, World.size_setCell, World.size_drew]; omega) | (simp; omega) | (simp; done)))⟩
      · have cE := fun d os => Calls.regrown_of (l22One_s x y z (Go.Sort.grow (redrawn W d) os) _ h1)
        have H1 := Lib.hid h1
        clear h1
        by_cases hk0 : k = 0
        · have hd : decide (0 < k) = false := by simpa using hk0
          have HK0 := Lib.hid hk0
          clear hk0
          cases hh : hasA (xs.take k) x
          · have hgood := Lib.hid (show stOk (xs.take k) (x, y, z) = true by simp only [stOk, H1.out, hh, htl.out, HK0.out]; rfl)
            have cH := fun d os => Calls.regrown_of (by have h := quarHas_s 0 _ _ c _ x (Go.Sort.grow (redrawn W d) os) (hrt.lt.below (below_regrown W d os)) htl.out htn; rw [hh] at h; exact h)
            clear hh
            refine wp_region_quiet_below (by kernel_rfl) (by kernel_rfl) ?_
            repeat (first | go_big_quiet_step (first | (with_reducible exact cE _ _) | (with_reducible exact cH _ _)) | quiet_step (first | (with_reducible exact cE _ _) | (with_reducible exact cH _ _)))
            refine wpQuiet_nil ?_
            intro _ hw_q
            obtain ⟨⟨dq, osq⟩, hw_q'⟩ := hw_q
            subst hw_q'
            have hbq := below_regrown W dq osq
            generalize Go.Sort.grow (redrawn W dq) osq = wq at *
            go_wp2
            go_roundw
            case rel =>
              refine ⟨k + 1, by omega, by go_num, fun j hj => ?_, ?_⟩
              · by_cases e : j = k
                · subst e; rw [HK.out]; exact hgood.out
                · exact HA.out j (by omega)
              · (repeat' (first | (with_reducible exact Below.refl _ _) | (with_reducible refine bel_alloc ?_ ?_ _) | (with_reducible refine Below.setCell ?_ ?_ _) | (with_reducible refine below_drewN ?_ _) | (with_reducible refine Below.drew ?_) | (with_reducible refine bel_step hbq ?_ ?_) | (with_reducible refine bel_step hWr ?_ ?_) | (with_reducible refine bel_step hbr ?_ ?_) | (with_reducible exact Nat.le_refl _) | (with_reducible assumption) | omega | (simp only [World.size_alloc, World.size_setCell, World.size_drew]; omega) | (simp; omega) | (simp; done)))
            case measure => simp [intOf]; omega
          · have hbad := Lib.hid (show stOk (xs.take k) (x, y, z) = false by simp [stOk, hh])
            have cH := fun d os => Calls.regrown_of (by have h := quarHas_s 0 _ _ c _ x (Go.Sort.grow (redrawn W d) os) (hrt.lt.below (below_regrown W d os)) htl.out htn; rw [hh] at h; exact h)
            clear hh
            refine wp_region_quiet_below (by kernel_rfl) (by kernel_rfl) ?_
            repeat (first | go_big_quiet_step (first | (with_reducible exact cE _ _) | (with_reducible exact cH _ _)) | quiet_step (first | (with_reducible exact cE _ _) | (with_reducible exact cH _ _)))
            refine wpQuiet_nil ?_
            intro _ hw_q
            obtain ⟨⟨dq, osq⟩, hw_q'⟩ := hw_q
            subst hw_q'
            have hbq := below_regrown W dq osq
            generalize Go.Sort.grow (redrawn W dq) osq = wq at *
            go_wp2
            go_ret
            exact ⟨by rw [qOkB_bad hlt (by rw [HK.out]; exact hbad.out)]; rfl, by (repeat' (first | (with_reducible exact Below.refl _ _) | (with_reducible refine bel_alloc ?_ ?_ _) | (with_reducible refine Below.setCell ?_ ?_ _) | (with_reducible refine below_drewN ?_ _) | (with_reducible refine Below.drew ?_) | (with_reducible refine bel_step hbq ?_ ?_) | (with_reducible refine bel_step BB ?_ ?_) | (with_reducible exact Nat.le_refl _) | (with_reducible assumption) | omega | (simp only [World.size_alloc, World.size_setCell, World.size_drew]; omega) | (simp; omega) | (simp; done)))⟩
        · obtain ⟨m, hmk⟩ : ∃ m, m = k - 1 := ⟨_, rfl⟩
          obtain ⟨b', off', hA, -, -, -, hd2⟩ := hrr.trip (k := m) (by omega)
          injection hA with hA
          injection hA with hA1 hA2
          subst hA1 hA2
          obtain ⟨t, ht⟩ : ∃ t, t = (xs[m]'(by omega)).2.2 := ⟨_, rfl⟩
          rw [← ht] at hd2
          have HL := Lib.hid (show lastS (xs.take k) = t by
            obtain rfl : k = m + 1 := by omega
            rw [lastS_take (by omega), ht])
          have k4 := cell_regrown hd2
          have hnd : decide (0 < k) = true := by simp; omega
          have hnk : 0 < k := by omega
          have HK0 := Lib.hid (show decide (k = 0) = false by simpa using hk0)
          have hs1 : IntKind.i64.wrap ((k : Int) - 1) = (m : Int) := by rw [IntWalk.i64_in _ (by omega)]; omega
          have hs2 : m < xs.length := by omega
          clear ht hmk hd2 hk0
          by_cases hzt : z < t
          · have hbad := Lib.hid (show stOk (xs.take k) (x, y, z) = false by
              have : ¬ t ≤ z := by omega
              simp [stOk, HL.out, htl.out, this]
              omega)
            refine wp_region_quiet_below (by kernel_rfl) (by kernel_rfl) ?_
            repeat (first | go_big_quiet_step (first | (with_reducible exact cE _ _)) | quiet_step (first | (with_reducible exact cE _ _)))
            refine wpQuiet_nil ?_
            intro _ hw_q
            obtain ⟨⟨dq, osq⟩, hw_q'⟩ := hw_q
            subst hw_q'
            have hbq := below_regrown W dq osq
            generalize Go.Sort.grow (redrawn W dq) osq = wq at *
            go_wp2
            go_ret
            exact ⟨by rw [qOkB_bad hlt (by rw [HK.out]; exact hbad.out)]; rfl, by (repeat' (first | (with_reducible exact Below.refl _ _) | (with_reducible refine bel_alloc ?_ ?_ _) | (with_reducible refine Below.setCell ?_ ?_ _) | (with_reducible refine below_drewN ?_ _) | (with_reducible refine Below.drew ?_) | (with_reducible refine bel_step hbq ?_ ?_) | (with_reducible refine bel_step BB ?_ ?_) | (with_reducible exact Nat.le_refl _) | (with_reducible assumption) | omega | (simp only [World.size_alloc, World.size_setCell, World.size_drew]; omega) | (simp; omega) | (simp; done)))⟩
          · have hzd : decide (z < t) = false := by simpa using hzt
            cases hh : hasA (xs.take k) x
            · have hgood := Lib.hid (show stOk (xs.take k) (x, y, z) = true by
                have : t ≤ z := by omega
                simp [stOk, H1.out, hh, HL.out, this])
              have cH := fun d os => Calls.regrown_of (by have h := quarHas_s 0 _ _ c _ x (Go.Sort.grow (redrawn W d) os) (hrt.lt.below (below_regrown W d os)) htl.out htn; rw [hh] at h; exact h)
              clear hh
              refine wp_region_quiet_below (by kernel_rfl) (by kernel_rfl) ?_
              repeat (first | go_big_quiet_step (first | (with_reducible exact cE _ _) | (with_reducible exact cH _ _)) | quiet_step (first | (with_reducible exact cE _ _) | (with_reducible exact cH _ _)))
              refine wpQuiet_nil ?_
              intro _ hw_q
              obtain ⟨⟨dq, osq⟩, hw_q'⟩ := hw_q
              subst hw_q'
              have hbq := below_regrown W dq osq
              generalize Go.Sort.grow (redrawn W dq) osq = wq at *
              go_wp2
              go_roundw
              case rel =>
                refine ⟨k + 1, by omega, by go_num, fun j hj => ?_, ?_⟩
                · by_cases e : j = k
                  · subst e; rw [HK.out]; exact hgood.out
                  · exact HA.out j (by omega)
                · (repeat' (first | (with_reducible exact Below.refl _ _) | (with_reducible refine bel_alloc ?_ ?_ _) | (with_reducible refine Below.setCell ?_ ?_ _) | (with_reducible refine below_drewN ?_ _) | (with_reducible refine Below.drew ?_) | (with_reducible refine bel_step hbq ?_ ?_) | (with_reducible refine bel_step hWr ?_ ?_) | (with_reducible refine bel_step hbr ?_ ?_) | (with_reducible exact Nat.le_refl _) | (with_reducible assumption) | omega | (simp only [World.size_alloc, World.size_setCell, World.size_drew]; omega) | (simp; omega) | (simp; done)))
              case measure => simp [intOf]; omega
            · have hbad := Lib.hid (show stOk (xs.take k) (x, y, z) = false by simp [stOk, hh])
              have cH := fun d os => Calls.regrown_of (by have h := quarHas_s 0 _ _ c _ x (Go.Sort.grow (redrawn W d) os) (hrt.lt.below (below_regrown W d os)) htl.out htn; rw [hh] at h; exact h)
              clear hh
              refine wp_region_quiet_below (by kernel_rfl) (by kernel_rfl) ?_
              repeat (first | go_big_quiet_step (first | (with_reducible exact cE _ _) | (with_reducible exact cH _ _)) | quiet_step (first | (with_reducible exact cE _ _) | (with_reducible exact cH _ _)))
              refine wpQuiet_nil ?_
              intro _ hw_q
              obtain ⟨⟨dq, osq⟩, hw_q'⟩ := hw_q
              subst hw_q'
              have hbq := below_regrown W dq osq
              generalize Go.Sort.grow (redrawn W dq) osq = wq at *
              go_wp2
              go_ret
              exact ⟨by rw [qOkB_bad hlt (by rw [HK.out]; exact hbad.out)]; rfl, by (repeat' (first | (with_reducible exact Below.refl _ _) | (with_reducible refine bel_alloc ?_ ?_ _) | (with_reducible refine Below.setCell ?_ ?_ _) | (with_reducible refine below_drewN ?_ _) | (with_reducible refine Below.drew ?_) | (with_reducible refine bel_step hbq ?_ ?_) | (with_reducible refine bel_step BB ?_ ?_) | (with_reducible exact Nat.le_refl _) | (with_reducible assumption) | omega | (simp only [World.size_alloc, World.size_setCell, World.size_drew]; omega) | (simp; omega) | (simp; done)))⟩
    · have HR := Lib.hid (qOkB_all (r := r) (xs := xs) fun j hj => HA.out j (by omega))
      have CQ := Lib.hid (fun W h => l22Cells_s A xs.length c xs W (B := W0.heap.size) h rfl (by omega))
      generalize qsum xs = t at *
      have k0 := cell_regrown p0
      have k1 := cell_regrown p1
      have cC := fun d os => Calls.regrown_of ((CQ.out (Go.Sort.grow (redrawn wr d) os) (hrr.below (below_regrown wr d os))).mono fun _ _ ⟨h1, h2⟩ => ⟨h1, by rw [h2]; exact Below.refl _ _⟩)
      cases hb : btw r 0 500
      · have cB := fun d os => Calls.regrown_of (l01In_b r 0 500 (Go.Sort.grow (redrawn wr d) os) hb)
        have HB := Lib.hid hb
        clear hb
        go_wp2
        refine wp_region_quiet_below (by kernel_rfl) (by kernel_rfl) ?_
        repeat (first | go_big_quiet_step (first | (with_reducible exact cB _ _)) | quiet_step (first | (with_reducible exact cB _ _)))
        refine wpQuiet_nil ?_
        intro _ hw_q
        obtain ⟨⟨dq, osq⟩, hw_q'⟩ := hw_q
        subst hw_q'
        have hbq := below_regrown wr dq osq
        generalize Go.Sort.grow (redrawn wr dq) osq = wq at *
        go_wp2
        go_ret
        exact ⟨by rw [HR.out, HB.out]; rfl, by (repeat' (first | (with_reducible exact Below.refl _ _) | (with_reducible refine bel_alloc ?_ ?_ _) | (with_reducible refine Below.setCell ?_ ?_ _) | (with_reducible refine below_drewN ?_ _) | (with_reducible refine Below.drew ?_) | (with_reducible refine bel_step hbq ?_ ?_) | (with_reducible refine bel_step hbw ?_ ?_) | (with_reducible exact Nat.le_refl _) | (with_reducible assumption) | omega | (simp only [World.size_alloc, World.size_setCell, World.size_drew]; omega) | (simp; omega) | (simp; done)))⟩
      · have cB := fun d os => Calls.regrown_of (l01In_b r 0 500 (Go.Sort.grow (redrawn wr d) os) hb)
        have HB := Lib.hid hb
        clear hb
        go_wp2
        refine wp_region_quiet_below (by kernel_rfl) (by kernel_rfl) ?_
        repeat (first | go_big_quiet_step (first | (with_reducible exact cB _ _) | (with_reducible exact cC _ _)) | quiet_step (first | (with_reducible exact cB _ _) | (with_reducible exact cC _ _)))
        refine wpQuiet_nil ?_
        intro _ hw_q
        obtain ⟨⟨dq, osq⟩, hw_q'⟩ := hw_q
        subst hw_q'
        have hbq := below_regrown wr dq osq
        generalize Go.Sort.grow (redrawn wr dq) osq = wq at *
        go_wp2
        go_ret
        exact ⟨by rw [HR.out, HB.out]; rfl, by (repeat' (first | (with_reducible exact Below.refl _ _) | (with_reducible refine bel_alloc ?_ ?_ _) | (with_reducible refine Below.setCell ?_ ?_ _) | (with_reducible refine below_drewN ?_ _) | (with_reducible refine Below.drew ?_) | (with_reducible refine bel_step hbq ?_ ?_) | (with_reducible refine bel_step hbw ?_ ?_) | (with_reducible exact Nat.le_refl _) | (with_reducible assumption) | omega | (simp only [World.size_alloc, World.size_setCell, World.size_drew]; omega) | (simp; omega) | (simp; done)))⟩
end Go.Proofs.Yteafpfmndjeanaa
