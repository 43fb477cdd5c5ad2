/- FirstBroken and GuardsOk, of the program and of the reference. -/
import Derived.Test.YtljholnnhogdkaaMacF
import Derived.Test.YtljholnnhogdkaaGuardB
import Derived.Lib.QuietBelow
namespace Go.Proofs.Ytljholnnhogdkaa
open Go.ChangeShapes Go.WideShapes Go.ChangeAt Go.RowKit
set_option linter.unusedVariables false
set_option linter.unusedSimpArgs false

theorem gList_mem {a s x : Int} (h : x ∈ gList a s) : 0 ≤ x ∧ x ≤ 519 := by
  unfold gList at h
  have hc := cs_bd (kOf s : Nat)
  split at h
  · rename_i hg
    simp only [gOk, Bool.and_eq_true] at hg
    have h1 := of_btw hg.1.1
    have h2 := of_btw hg.1.2
    simp only [gl, List.mem_map, List.mem_range] at h
    obtain ⟨i, hi, rfl⟩ := h
    omega
  · simp at h
set_option maxRecDepth 100000 in
set_option maxHeartbeats 8000000 in
theorem firstBroken_i (A : Option Addr) (c : Nat) (B : Option Addr) (d : Nat) (AE : Option Addr) (f : Nat) (xss : List (List Int)) (us : List Bool) (es : List En) (a s : Int) (w : World) {B1 B2 B3 : Nat} (hr : Rd2 iv w B1 A xss) (hs : Rd w B2 B (bl us)) (ht : Rd w B3 AE (pv es)) (hn : MRows xss us es) :
    Calls Try.prog 28 #[.agg #[.slice A xss.length c, .slice B us.length d, .slice AE es.length f], .int .i64 a, .int .i64 s] w fun e w' => e = .returned (.int .i64 (firstB xss us es (gList a s))) ∧ Below w.heap.size w w' := by
  have HM := Lib.hid (fun x => @gList_mem a s x)
  have hl8 := gList_len a s
  have HG := Lib.hid (fun W => guard_i a s W)
  generalize gList a s = l at *
  replace hr := hr.lt
  replace hs := hs.lt
  replace ht := ht.lt
  go_enter Try.func28, Try.ntmps28
  go_wp2_with fail
  refine (HG.out _).mono ?_
  rintro e W0 ⟨Al, cl, S, rfl, hW, hN, hb1⟩
  have hrl := hW.rd
  have hr1 := ((hr.alloc _).below hb1).lt
  have hs1 := ((hs.alloc _).below hb1).lt
  have ht1 := ((ht.alloc _).below hb1).lt
  have k0 : W0.cell? ⟨w.heap.size, 0, none⟩ = some (.slice A xss.length c) := keep hb1 (by simp [go_sem])
  have k1 : W0.cell? ⟨w.heap.size, 1, none⟩ = some (.slice B us.length d) := keep hb1 (by simp [go_sem])
  have k2 : W0.cell? ⟨w.heap.size, 2, none⟩ = some (.slice AE es.length f) := keep hb1 (by simp [go_sem])
  have lk := lt_of_cell' k0
  clear hr hs ht hW hN
  go_wp2
  go_loopw [15] (fun v wr => ∃ k : Nat, k ≤ l.length ∧ v = .int .i64 k ∧ (∀ i (hi : i < l.length), i < k → brk xss us es l[i] = false) ∧ Below W0.heap.size W0 wr) (fun v _ => l.length - (intOf v).toNat)
  case atStart => exact ⟨0, Nat.zero_le _, rfl, fun i _ hi => absurd hi (by omega), Below.refl _ _⟩
  case round =>
    obtain ⟨k, hk, rfl, hall, hbr⟩ := hrel
    have HA := Lib.hid hall
    clear hall
    have p0 := keep hbr k0
    have p1 := keep hbr k1
    have p2 := keep hbr k2
    have lp0 := lt_of_cell' p0
    by_cases hlt : k < l.length
    · obtain ⟨b, off, rfl, -, hx0⟩ := hrl.int hlt
      have hx := keep hbr hx0
      have lhx := lt_of_cell' hx
      have hxm := HM.out _ (List.getElem_mem hlt)
      have hr2 := hr1.below hbr
      have hs2 := hs1.below hbr
      have ht2 := ht1.below hbr
      have HBAD := Lib.hid (show brk xss us es l[k] = true → firstB xss us es l = l[k] from firstB_at hlt (fun j hj hjk => HA.out j hj hjk))
      have HOK := Lib.hid (show brk xss us es l[k] = false → ∀ i (hi : i < l.length), i < k + 1 → brk xss us es l[i] = false from fun h i hi hik => by
        by_cases e : i = k
        · subst e; exact h
        · exact HA.out i hi (by omega))
      clear hx0
      generalize l[k] = x at *
      obtain ⟨v, ft, hv⟩ : ∃ v ft, ldOf xss us es x = (v, ft) := ⟨_, _, rfl⟩
      have HB := Lib.hid (show brk xss us es x = (decide (ft ≠ 0) || decide (v ≠ 777)) by unfold brk; rw [hv])
      have HLD := Lib.hid hv
      clear hv
      have i0 : (0 : Int) ≤ (k : Int) := by omega
      have i1 : (k : Int) < (l.length : Int) := by omega
      go_wp2_with fail
      refine (load_i _ _ _ _ _ _ _ _ _ _ (by omega) _ hr2 hs2 ht2 hn _ _ HLD.out).mono ?_
      rintro e w3 ⟨rfl, hb3⟩
      by_cases hf0 : ft = 0
      · have hfb : (ft != 0) = false := by simp [hf0]
        by_cases hv7 : v = 777
        · have hvb : (v != 777) = false := by simp [hv7]
          have HC := Lib.hid (HOK.out (by rw [HB.out]; simp [hf0, hv7]))
          clear hf0 hv7
          go_wp2
          go_roundw
          case rel => exact ⟨k + 1, by omega, by go_num, HC.out, bel_step hb3 hbr (Nat.le_refl _)⟩
          case measure => simp [intOf]; omega
        · have hvb : (v != 777) = true := by simp [hv7]
          have HR := Lib.hid (HBAD.out (by rw [HB.out]; simp [hv7]))
          clear hf0 hv7
          go_wp2
          go_ret
          exact ⟨by rw [HR.out]; rfl, by (repeat' (first | (with_reducible exact Below.refl _ _) | (with_reducible refine bel_alloc ?_ ?_ _) | (with_reducible refine Below.setCell ?_ ?_ _) | (with_reducible refine below_drewN ?_ _) | (with_reducible refine Below.drew ?_) | (with_reducible refine bel_step hb3 ?_ ?_) | (with_reducible refine bel_step hbr ?_ ?_) | (with_reducible refine bel_step hb1 ?_ ?_) | (with_reducible exact Nat.le_refl _) | (with_reducible assumption) | omega | (simp only [World.size_alloc, World.size_setCell, World.size_drew]; omega) | (simp; omega) | (simp; done)))⟩
      · have hfb : (ft != 0) = true := by simp [hf0]
        have HR := Lib.hid (HBAD.out (by rw [HB.out]; simp [hf0]))
        clear hf0
        go_wp2
        go_ret
        exact ⟨by rw [HR.out]; rfl, by (repeat' (first | (with_reducible exact Below.refl _ _) | (with_reducible refine bel_alloc ?_ ?_ _) | (with_reducible refine Below.setCell ?_ ?_ _) | (with_reducible refine below_drewN ?_ _) | (with_reducible refine Below.drew ?_) | (with_reducible refine bel_step hb3 ?_ ?_) | (with_reducible refine bel_step hbr ?_ ?_) | (with_reducible refine bel_step hb1 ?_ ?_) | (with_reducible exact Nat.le_refl _) | (with_reducible assumption) | omega | (simp only [World.size_alloc, World.size_setCell, World.size_drew]; omega) | (simp; omega) | (simp; done)))⟩
    · have HR := Lib.hid (firstB_no fun i hi => HA.out i hi (by omega))
      go_wp2
      go_ret
      exact ⟨by rw [HR.out]; rfl, by (repeat' (first | (with_reducible exact Below.refl _ _) | (with_reducible refine bel_alloc ?_ ?_ _) | (with_reducible refine Below.setCell ?_ ?_ _) | (with_reducible refine below_drewN ?_ _) | (with_reducible refine Below.drew ?_) | (with_reducible refine bel_step hbr ?_ ?_) | (with_reducible refine bel_step hb1 ?_ ?_) | (with_reducible exact Nat.le_refl _) | (with_reducible assumption) | omega | (simp only [World.size_alloc, World.size_setCell, World.size_drew]; omega) | (simp; omega) | (simp; done)))⟩
set_option maxRecDepth 100000 in
set_option maxHeartbeats 8000000 in
theorem firstBroken_s (A : Option Addr) (c : Nat) (B : Option Addr) (d : Nat) (AE : Option Addr) (f : Nat) (xss : List (List Int)) (us : List Bool) (es : List En) (a s : Int) (w : World) {B1 B2 B3 : Nat} (hr : Rd2 iv w B1 A xss) (hs : Rd w B2 B (bl us)) (ht : Rd w B3 AE (pv es)) (hn : MRows xss us es) :
    Calls Try.prog 29 #[.agg #[.slice A xss.length c, .slice B us.length d, .slice AE es.length f], .int .i64 a, .int .i64 s] w fun e w' => e = .returned (.int .i64 (firstB xss us es (gList a s))) ∧ Below w.heap.size w w' := by
  have HM := Lib.hid (fun x => @gList_mem a s x)
  have hl8 := gList_len a s
  have HG := Lib.hid (fun W => guard_s a s W)
  generalize gList a s = l at *
  replace hr := hr.lt
  replace hs := hs.lt
  replace ht := ht.lt
  go_enter Try.func29, Try.ntmps29
  go_wp2_with fail
  refine (HG.out _).mono ?_
  rintro e W0 ⟨Al, cl, S, rfl, hW, hN, hb1⟩
  have hrl := hW.rd
  have hr1 := ((hr.alloc _).below hb1).lt
  have hs1 := ((hs.alloc _).below hb1).lt
  have ht1 := ((ht.alloc _).below hb1).lt
  have k0 : W0.cell? ⟨w.heap.size, 0, none⟩ = some (.slice A xss.length c) := keep hb1 (by simp [go_sem])
  have k1 : W0.cell? ⟨w.heap.size, 1, none⟩ = some (.slice B us.length d) := keep hb1 (by simp [go_sem])
  have k2 : W0.cell? ⟨w.heap.size, 2, none⟩ = some (.slice AE es.length f) := keep hb1 (by simp [go_sem])
  have lk := lt_of_cell' k0
  clear hr hs ht hW hN
  go_wp2
  go_loopw [8] (fun v wr => ∃ k : Nat, k ≤ l.length ∧ v = .int .i64 k ∧ (∀ i (hi : i < l.length), i < k → brk xss us es l[i] = false) ∧ Below W0.heap.size W0 wr) (fun v _ => l.length - (intOf v).toNat)
  case atStart => exact ⟨0, Nat.zero_le _, rfl, fun i _ hi => absurd hi (by omega), Below.refl _ _⟩
  case round =>
    obtain ⟨k, hk, rfl, hall, hbr⟩ := hrel
    have HA := Lib.hid hall
    clear hall
    have p0 := keep hbr k0
    have p1 := keep hbr k1
    have p2 := keep hbr k2
    have lp0 := lt_of_cell' p0
    by_cases hlt : k < l.length
    · obtain ⟨b, off, rfl, -, hx0⟩ := hrl.int hlt
      have hx := keep hbr hx0
      have lhx := lt_of_cell' hx
      have hxm := HM.out _ (List.getElem_mem hlt)
      have hr2 := hr1.below hbr
      have hs2 := hs1.below hbr
      have ht2 := ht1.below hbr
      have HBAD := Lib.hid (show brk xss us es l[k] = true → firstB xss us es l = l[k] from firstB_at hlt (fun j hj hjk => HA.out j hj hjk))
      have HOK := Lib.hid (show brk xss us es l[k] = false → ∀ i (hi : i < l.length), i < k + 1 → brk xss us es l[i] = false from fun h i hi hik => by
        by_cases e : i = k
        · subst e; exact h
        · exact HA.out i hi (by omega))
      clear hx0
      generalize l[k] = x at *
      obtain ⟨v, ft, hv⟩ : ∃ v ft, ldOf xss us es x = (v, ft) := ⟨_, _, rfl⟩
      have HB := Lib.hid (show brk xss us es x = (decide (ft ≠ 0) || decide (v ≠ 777)) by unfold brk; rw [hv])
      have HLD := Lib.hid hv
      clear hv
      have i0 : (0 : Int) ≤ (k : Int) := by omega
      have i1 : (k : Int) < (l.length : Int) := by omega
      have c0 := cell_regrown p0
      have c1 := cell_regrown p1
      have c2 := cell_regrown p2
      have c3 := cell_regrown hx
      have cE := fun d_ os => Calls.regrown_of (load_s A c B d AE f xss us es x (by omega) (Go.Sort.grow (redrawn wr d_) os) (hr2.below (below_regrown wr d_ os)) (hs2.below (below_regrown wr d_ os)) (ht2.below (below_regrown wr d_ os)) hn _ _ HLD.out)
      go_wp2
      refine wp_region_quiet_below (by kernel_rfl) (by kernel_rfl) ?_
      repeat (first | go_big_quiet_step (first | (with_reducible exact cE _ _)) | quiet_step (first | (with_reducible exact cE _ _)))
      refine wpQuiet_nil ?_
      intro _ hw_q
      obtain ⟨⟨dq, osq⟩, hw_q'⟩ := hw_q
      subst hw_q'
      have hbq := below_regrown wr dq osq
      generalize Go.Sort.grow (redrawn wr dq) osq = wq at *
      have hb3 := hbq
      replace hx := keep hbq hx
      have lhx2 := lt_of_cell' hx
      by_cases hf0 : ft = 0
      · have hfb : (ft != 0) = false := by simp [hf0]
        by_cases hv7 : v = 777
        · have hvb : (v != 777) = false := by simp [hv7]
          have HC := Lib.hid (HOK.out (by rw [HB.out]; simp [hf0, hv7]))
          clear hf0 hv7
          go_wp2
          go_roundw
          case rel => exact ⟨k + 1, by omega, by go_num, HC.out, bel_step hb3 hbr (Nat.le_refl _)⟩
          case measure => simp [intOf]; omega
        · have hvb : (v != 777) = true := by simp [hv7]
          have HR := Lib.hid (HBAD.out (by rw [HB.out]; simp [hv7]))
          clear hf0 hv7
          go_wp2
          go_ret
          exact ⟨by rw [HR.out]; rfl, by (repeat' (first | (with_reducible exact Below.refl _ _) | (with_reducible refine bel_alloc ?_ ?_ _) | (with_reducible refine Below.setCell ?_ ?_ _) | (with_reducible refine below_drewN ?_ _) | (with_reducible refine Below.drew ?_) | (with_reducible refine bel_step hb3 ?_ ?_) | (with_reducible refine bel_step hbr ?_ ?_) | (with_reducible refine bel_step hb1 ?_ ?_) | (with_reducible exact Nat.le_refl _) | (with_reducible assumption) | omega | (simp only [World.size_alloc, World.size_setCell, World.size_drew]; omega) | (simp; omega) | (simp; done)))⟩
      · have hfb : (ft != 0) = true := by simp [hf0]
        have HR := Lib.hid (HBAD.out (by rw [HB.out]; simp [hf0]))
        clear hf0
        go_wp2
        go_ret
        exact ⟨by rw [HR.out]; rfl, by (repeat' (first | (with_reducible exact Below.refl _ _) | (with_reducible refine bel_alloc ?_ ?_ _) | (with_reducible refine Below.setCell ?_ ?_ _) | (with_reducible refine below_drewN ?_ _) | (with_reducible refine Below.drew ?_) | (with_reducible refine bel_step hb3 ?_ ?_) | (with_reducible refine bel_step hbr ?_ ?_) | (with_reducible refine bel_step hb1 ?_ ?_) | (with_reducible exact Nat.le_refl _) | (with_reducible assumption) | omega | (simp only [World.size_alloc, World.size_setCell, World.size_drew]; omega) | (simp; omega) | (simp; done)))⟩
    · have HR := Lib.hid (firstB_no fun i hi => HA.out i hi (by omega))
      go_wp2
      go_ret
      exact ⟨by rw [HR.out]; rfl, by (repeat' (first | (with_reducible exact Below.refl _ _) | (with_reducible refine bel_alloc ?_ ?_ _) | (with_reducible refine Below.setCell ?_ ?_ _) | (with_reducible refine below_drewN ?_ _) | (with_reducible refine Below.drew ?_) | (with_reducible refine bel_step hbr ?_ ?_) | (with_reducible refine bel_step hb1 ?_ ?_) | (with_reducible exact Nat.le_refl _) | (with_reducible assumption) | omega | (simp only [World.size_alloc, World.size_setCell, World.size_drew]; omega) | (simp; omega) | (simp; done)))⟩
set_option maxHeartbeats 2000000 in
theorem guardsOk_i (A : Option Addr) (c : Nat) (B : Option Addr) (d : Nat) (AE : Option Addr) (f : Nat) (xss : List (List Int)) (us : List Bool) (es : List En) (a s : Int) (w : World) {B1 B2 B3 : Nat} (hr : Rd2 iv w B1 A xss) (hs : Rd w B2 B (bl us)) (ht : Rd w B3 AE (pv es)) (hn : MRows xss us es) (v : Bool) (hv : decide (firstB xss us es (gList a s) = -1) = v) :
    Calls Try.prog 21 #[.agg #[.slice A xss.length c, .slice B us.length d, .slice AE es.length f], .int .i64 a, .int .i64 s] w fun e w' => e = .returned (.bool v) ∧ Below w.heap.size w w' := by
  have HC := Lib.hid (fun W (h1 : Rd2 iv W B1 A xss) (h2 : Rd W B2 B (bl us)) (h3 : Rd W B3 AE (pv es)) => firstBroken_i A c B d AE f xss us es a s W h1 h2 h3 hn)
  generalize firstB xss us es (gList a s) = t at *
  have hvb : (t == -1) = v := by rw [← hv]; rfl
  go_enter Try.func21, Try.ntmps21
  go_wp2_with fail
  refine (HC.out _ (hr.alloc _) (hs.alloc _) (ht.alloc _)).mono ?_
  rintro e w1 ⟨rfl, hb1⟩
  clear hv
  go_wp2
  go_ret
  exact ⟨rfl, by (repeat' (first | (with_reducible exact Below.refl _ _) | (with_reducible refine bel_alloc ?_ ?_ _) | (with_reducible refine Below.setCell ?_ ?_ _) | (with_reducible refine below_drewN ?_ _) | (with_reducible refine Below.drew ?_) | (with_reducible refine bel_step hb1 ?_ ?_) | (with_reducible exact Nat.le_refl _) | (with_reducible assumption) | omega | (simp only [World.size_alloc, World.size_setCell, World.size_drew]; omega) | (simp; omega) | (simp; done)))⟩
set_option maxHeartbeats 2000000 in
theorem guardsOk_s (A : Option Addr) (c : Nat) (B : Option Addr) (d : Nat) (AE : Option Addr) (f : Nat) (xss : List (List Int)) (us : List Bool) (es : List En) (a s : Int) (w : World) {B1 B2 B3 : Nat} (hr : Rd2 iv w B1 A xss) (hs : Rd w B2 B (bl us)) (ht : Rd w B3 AE (pv es)) (hn : MRows xss us es) (v : Bool) (hv : decide (firstB xss us es (gList a s) = -1) = v) :
    Calls Try.prog 19 #[.agg #[.slice A xss.length c, .slice B us.length d, .slice AE es.length f], .int .i64 a, .int .i64 s] w fun e w' => e = .returned (.bool v) ∧ Below w.heap.size w w' := by
  have HC := Lib.hid (fun W (h1 : Rd2 iv W B1 A xss) (h2 : Rd W B2 B (bl us)) (h3 : Rd W B3 AE (pv es)) => firstBroken_s A c B d AE f xss us es a s W h1 h2 h3 hn)
  have hor := firstB_or (xss := xss) (us := us) (es := es) (l := gList a s) (fun x hx => (gList_mem hx).1)
  generalize firstB xss us es (gList a s) = t at *
  have hvb : decide (t < 0) = v := by
    rw [← hv]
    rcases hor with h | h
    · subst h; rfl
    · rw [decide_eq_false (by omega), decide_eq_false (by omega)]
  go_enter Try.func19, Try.ntmps19
  go_wp2_with fail
  refine (HC.out _ (hr.alloc _) (hs.alloc _) (ht.alloc _)).mono ?_
  rintro e w1 ⟨rfl, hb1⟩
  clear hv hor
  go_wp2
  go_ret
  exact ⟨rfl, by (repeat' (first | (with_reducible exact Below.refl _ _) | (with_reducible refine bel_alloc ?_ ?_ _) | (with_reducible refine Below.setCell ?_ ?_ _) | (with_reducible refine below_drewN ?_ _) | (with_reducible refine Below.drew ?_) | (with_reducible refine bel_step hb1 ?_ ?_) | (with_reducible exact Nat.le_refl _) | (with_reducible assumption) | omega | (simp only [World.size_alloc, World.size_setCell, World.size_drew]; omega) | (simp; omega) | (simp; done)))⟩
end Go.Proofs.Ytljholnnhogdkaa
