/- QuarOk, of the program and of the reference. -/
import Derived.Test.YteafpfmndjeanaaQuarC
import Derived.Test.YteafpfmndjeanaaSet
namespace Go.Proofs.Yteafpfmndjeanaa
open Go.ChangeShapes Go.WideShapes Go.ChangeAt Go.RowKit
set_option linter.unusedVariables false

set_option maxHeartbeats 4000000 in
theorem quarOk_i (r : Int) (A : Option Addr) (n c : Nat) (xs : List St) (w : World) (v : Bool) {B : Nat} (hr : Rd w B A (tv xs)) (hl : xs.length = n) (hn : n ≤ 1048576) (hcap : n ≤ c ∧ c ≤ maxLen) (hv : qOkB r xs = v) :
    Calls Try.prog 20 #[.agg #[.int .i64 r, .slice A n c]] w fun e w' => e = .returned (.bool v) ∧ Below w.heap.size w w' := by
  subst hl hv
  have hcap1 := hcap.1
  go_enter Try.func20, Try.ntmps20
  go_wp2
  have hr0 := hr.alloc (.cells #[.int .i64 r, .slice A xs.length c] 24)
  have q0 : (w.alloc (.cells #[.int .i64 r, .slice A xs.length c] 24)).cell? ⟨w.heap.size, 0, none⟩ = some (.int .i64 r) := by simp [go_sem]
  have q1 : (w.alloc (.cells #[.int .i64 r, .slice A xs.length c] 24)).cell? ⟨w.heap.size, 1, none⟩ = some (.slice A xs.length c) := by simp [go_sem]
  have hW : Below w.heap.size w (w.alloc (.cells #[.int .i64 r, .slice A xs.length c] 24)) := by (repeat' (first | (with_reducible exact Below.refl _ _) | (with_reducible refine bel_alloc ?_ ?_ _) | (with_reducible refine Below.setCell ?_ ?_ _) | (with_reducible refine below_drewN ?_ _) | (with_reducible refine Below.drew ?_) | (with_reducible exact Nat.le_refl _) | (with_reducible assumption) | omega | (simp only [World.size_alloc, World.size_setCell, World.size_drew]; omega) | (simp; omega) | (simp; done)))
  generalize w.alloc (.cells #[.int .i64 r, .slice A xs.length c] 24) = W0 at *
  clear hr
  go_loopw [8] (fun v wr => ∃ k : Nat, k ≤ xs.length ∧ v = .int .i64 k ∧ (∀ j, j < k → okQ xs j = true) ∧ Below W0.heap.size W0 wr) (fun v _ => xs.length - (intOf v).toNat)
  case atStart => exact ⟨0, Nat.zero_le _, rfl, fun j hj => absurd hj (by omega), Below.refl _ _⟩
  case round =>
    obtain ⟨k, hk, rfl, hall, hbr⟩ := hrel
    have HA := Lib.hid hall
    have hrr := hr0.lt.below hbr
    have p0 := keep hbr q0
    have p1 := keep hbr q1
    have hp0 := lt_of_cell' p0
    have hbw := bel_step hbr hW (Nat.le_refl _)
    clear hall q0 q1 hr0 hW
    by_cases hlt : k < xs.length
    · obtain ⟨b, off, rfl, -, hc0, hc1, hc2⟩ := hrr.trip hlt
      have hbl := lt_of_cell' hc0
      obtain ⟨x, hx⟩ : ∃ x, x = xs[k].1 := ⟨_, rfl⟩
      obtain ⟨y, hy⟩ : ∃ y, y = xs[k].2.1 := ⟨_, rfl⟩
      obtain ⟨z, hz⟩ : ∃ y, y = xs[k].2.2 := ⟨_, rfl⟩
      have HK := Lib.hid (show okQ xs k = stOk (xs.take k) (x, y, z) by rw [okQ_at hlt, hx, hy, hz])
      rw [← hx] at hc0
      rw [← hy] at hc1
      rw [← hz] at hc2
      clear hx hy hz
      rw [tv_take xs k] at hrr
      have hrt := hrr.pre
      clear hrr
      have htl : (xs.take k).length = k := by simp; omega
      have htn : k ≤ 1048576 := by omega
      have hkc : k ≤ c := by omega
      have htl := Lib.hid htl
      cases hi : stOk (xs.take k) (x, y, z)
      all_goals
        have hi := Lib.hid hi
        go_wp2
        have BB := bel_alloc hbw (Nat.le_refl _) (.cells #[.int .i64 x, .int .i64 y, .int .i64 z] 47)
        have z0 : (wr.alloc (.cells #[.int .i64 x, .int .i64 y, .int .i64 z] 47)).cell? ⟨wr.heap.size, 0, none⟩ = some (.int .i64 x) := by simp [go_sem]
        have z1 : (wr.alloc (.cells #[.int .i64 x, .int .i64 y, .int .i64 z] 47)).cell? ⟨wr.heap.size, 1, none⟩ = some (.int .i64 y) := by simp [go_sem]
        have z2 : (wr.alloc (.cells #[.int .i64 x, .int .i64 y, .int .i64 z] 47)).cell? ⟨wr.heap.size, 2, none⟩ = some (.int .i64 z) := by simp [go_sem]
        replace p1 := cell_al p1 (.cells #[.int .i64 x, .int .i64 y, .int .i64 z] 47)
        replace hrt := hrt.alloc (.cells #[.int .i64 x, .int .i64 y, .int .i64 z] 47)
        clear hc0 hc1 hc2 hbl p0 hbw
        have hWr : Below wr.heap.size wr (wr.alloc (.cells #[.int .i64 x, .int .i64 y, .int .i64 z] 47)) := by (repeat' (first | (with_reducible exact Below.refl _ _) | (with_reducible refine bel_alloc ?_ ?_ _) | (with_reducible refine Below.setCell ?_ ?_ _) | (with_reducible refine below_drewN ?_ _) | (with_reducible refine Below.drew ?_) | (with_reducible exact Nat.le_refl _) | (with_reducible assumption) | omega | (simp only [World.size_alloc, World.size_setCell, World.size_drew]; omega) | (simp; omega) | (simp; done)))
        generalize wr.alloc (.cells #[.int .i64 x, .int .i64 y, .int .i64 z] 47) = W at *
        have k0 := cell_regrown z0
        have k1 := cell_regrown z1
        have k2 := cell_regrown z2
        have k3 := cell_regrown p1
        have cE := fun d os => Calls.regrown_of (staleOk_i _ _ c _ _ _ _ (Go.Sort.grow (redrawn W d) os) _ (hrt.lt.below (below_regrown W d os)) htl.out htn hi.out)
        refine wp_region_quiet_below (by kernel_rfl) (by kernel_rfl) ?_
        repeat (first | go_big_quiet_step (first | (with_reducible exact cE _ _)) | quiet_step (first | (with_reducible exact cE _ _)))
        refine wpQuiet_nil ?_
        intro _ hw_q
        obtain ⟨⟨dq, osq⟩, hw_q'⟩ := hw_q
        subst hw_q'
        have hbq := below_regrown W dq osq
        generalize Go.Sort.grow (redrawn W dq) osq = wq at *
      · go_wp2
        go_ret
        exact ⟨by rw [qOkB_bad hlt (by rw [HK.out]; exact hi.out)]; rfl, by (repeat' (first | (with_reducible exact Below.refl _ _) | (with_reducible refine bel_alloc ?_ ?_ _) | (with_reducible refine Below.setCell ?_ ?_ _) | (with_reducible refine below_drewN ?_ _) | (with_reducible refine Below.drew ?_) | (with_reducible refine bel_step hbq ?_ ?_) | (with_reducible refine bel_step BB ?_ ?_) | (with_reducible exact Nat.le_refl _) | (with_reducible assumption) | omega | (simp only [World.size_alloc, World.size_setCell, World.size_drew]; omega) | (simp; omega) | (simp; done)))⟩
      · go_wp2
        go_roundw
        case rel =>
          refine ⟨k + 1, by omega, by go_num, fun j hj => ?_, ?_⟩
          · by_cases e : j = k
            · subst e; rw [HK.out]; exact hi.out
            · exact HA.out j (by omega)
          · (repeat' (first | (with_reducible exact Below.refl _ _) | (with_reducible refine bel_alloc ?_ ?_ _) | (with_reducible refine Below.setCell ?_ ?_ _) | (with_reducible refine below_drewN ?_ _) | (with_reducible refine Below.drew ?_) | (with_reducible refine bel_step hbq ?_ ?_) | (with_reducible refine bel_step hWr ?_ ?_) | (with_reducible refine bel_step hbr ?_ ?_) | (with_reducible exact Nat.le_refl _) | (with_reducible assumption) | omega | (simp only [World.size_alloc, World.size_setCell, World.size_drew]; omega) | (simp; omega) | (simp; done)))
        case measure => simp [intOf]; omega
    · have HR := Lib.hid (qOkB_all (r := r) (xs := xs) fun j hj => HA.out j (by omega))
      have CQ := Lib.hid (fun W h => quarCells_i A xs.length c xs W (B := W0.heap.size) h rfl (by omega))
      generalize qsum xs = t at *
      have k0 := cell_regrown p0
      have k1 := cell_regrown p1
      have cC := fun d os => Calls.regrown_of (CQ.out (Go.Sort.grow (redrawn wr d) os) (hrr.below (below_regrown wr d os)))
      cases hb : btw r 0 500
      · have cB := fun d os => Calls.regrown_of (between_b r 0 500 (Go.Sort.grow (redrawn wr d) os) hb)
        have HB := Lib.hid hb
        clear hb
        go_wp2
        refine wp_region_quiet_below (by kernel_rfl) (by kernel_rfl) ?_
        repeat (first | go_big_quiet_step (first | (with_reducible exact cB _ _)) | quiet_step (first | (with_reducible exact cB _ _)))
        refine wpQuiet_nil ?_
        intro _ hw_q
        obtain ⟨⟨dq, osq⟩, hw_q'⟩ := hw_q
        subst hw_q'
        have hbq := below_regrown wr dq osq
        generalize Go.Sort.grow (redrawn wr dq) osq = wq at *
        go_wp2
        go_ret
        exact ⟨by rw [HR.out, HB.out]; rfl, by (repeat' (first | (with_reducible exact Below.refl _ _) | (with_reducible refine bel_alloc ?_ ?_ _) | (with_reducible refine Below.setCell ?_ ?_ _) | (with_reducible refine below_drewN ?_ _) | (with_reducible refine Below.drew ?_) | (with_reducible refine bel_step hbq ?_ ?_) | (with_reducible refine bel_step hbw ?_ ?_) | (with_reducible exact Nat.le_refl _) | (with_reducible assumption) | omega | (simp only [World.size_alloc, World.size_setCell, World.size_drew]; omega) | (simp; omega) | (simp; done)))⟩
      · have cB := fun d os => Calls.regrown_of (between_b r 0 500 (Go.Sort.grow (redrawn wr d) os) hb)
        have HB := Lib.hid hb
        clear hb
        go_wp2
        refine wp_region_quiet_below (by kernel_rfl) (by kernel_rfl) ?_
        repeat (first | go_big_quiet_step (first | (with_reducible exact cB _ _) | (with_reducible exact cC _ _)) | quiet_step (first | (with_reducible exact cB _ _) | (with_reducible exact cC _ _)))
        refine wpQuiet_nil ?_
        intro _ hw_q
        obtain ⟨⟨dq, osq⟩, hw_q'⟩ := hw_q
        subst hw_q'
        have hbq := below_regrown wr dq osq
        generalize Go.Sort.grow (redrawn wr dq) osq = wq at *
        go_wp2
        go_ret
        exact ⟨by rw [HR.out, HB.out]; rfl, by (repeat' (first | (with_reducible exact Below.refl _ _) | (with_reducible refine bel_alloc ?_ ?_ _) | (with_reducible refine Below.setCell ?_ ?_ _) | (with_reducible refine below_drewN ?_ _) | (with_reducible refine Below.drew ?_) | (with_reducible refine bel_step hbq ?_ ?_) | (with_reducible refine bel_step hbw ?_ ?_) | (with_reducible exact Nat.le_refl _) | (with_reducible assumption) | omega | (simp only [World.size_alloc, World.size_setCell, World.size_drew]; omega) | (simp; omega) | (simp; done)))⟩
end Go.Proofs.Yteafpfmndjeanaa
