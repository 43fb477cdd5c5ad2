/- QuarAdd, of the reference. -/
import Derived.Test.YteafpfmndjeanaaQuarK
namespace Go.Proofs.Yteafpfmndjeanaa
open Go.ChangeShapes Go.WideShapes Go.ChangeAt Go.RowKit
set_option linter.unusedVariables false
attribute [local go_sem ↓] Go.wp_at_zero Go.wp_at_succ

theorem lastS_eq {xs : List St} {m : Nat} (h : m + 1 = xs.length) : lastS xs = xs[m].2.2 := by
  have h2 := lastS_take (xs := xs) (k := m) (by omega)
  rwa [List.take_of_length_le (by omega)] at h2
set_option maxHeartbeats 16000000 in
theorem quarAdd_s_no (r : Int) (A : Option Addr) (n c : Nat) (xs : List St) (x y z : Int) (w : World) {B : Nat} (hr : Rd w B A (tv xs)) (hl : xs.length = n) (hn : n ≤ 1048576) (hcap : n ≤ c ∧ c ≤ maxLen) (hno : qOkB r xs = false ∨ stOk xs (x, y, z) = false) :
    Calls Try.prog 31 #[.agg #[.int .i64 r, .slice A n c], .agg #[.int .i64 x, .int .i64 y, .int .i64 z]] w (MadeAddC r xs [] w) := by
  subst hl
  go_enter Try.func31, Try.ntmps31
  go_wp2_with fail
  refine (l22Copy_any _ _ _ _ _ _ (((hr.alloc _).alloc _).alloc _) rfl (by omega)).mono ?_
  rintro e u1 ⟨A', c', rfl, hO, hb1⟩
  have HCAP := Lib.hid hO.cap
  replace hr := (((hr.alloc _).alloc _).alloc _).below hb1
  have q0 : u1.cell? ⟨w.heap.size, 0, none⟩ = some (.int .i64 r) := keep hb1 (by simp [go_sem])
  have q1 : u1.cell? ⟨w.heap.size, 1, none⟩ = some (.slice A xs.length c) := keep hb1 (by simp [go_sem])
  have x0 : u1.cell? ⟨w.heap.size + 1, 0, none⟩ = some (.int .i64 x) := keep hb1 (by simp [go_sem])
  have x1 : u1.cell? ⟨w.heap.size + 1, 1, none⟩ = some (.int .i64 y) := keep hb1 (by simp [go_sem])
  have x2 : u1.cell? ⟨w.heap.size + 1, 2, none⟩ = some (.int .i64 z) := keep hb1 (by simp [go_sem])
  have f0 : Cl u1 ⟨w.heap.size + 1 + 1, 0, none⟩ (.int .i64 0) := Cl.below (by constructor <;> simp [go_sem]) hb1
  have f1 : Cl u1 ⟨w.heap.size + 1 + 1, 1, none⟩ (.slice none 0 0) := Cl.below (by constructor <;> simp [go_sem]) hb1
  have hz1 := hb1.size
  try simp only [World.size_alloc, World.size_drew] at hz1
  have lq0 := lt_of_cell' q0
  have lx0 := lt_of_cell' x0
  have f0c := f0.1
  have f0f := f0.2
  have lf0 := lt_of_cell' f0c
  have f1c := f1.1
  have f1f := f1.2
  replace hO := hO.mono (lo' := w.heap.size + 3) (by simp only [World.size_alloc]; omega) (Nat.le_refl _)
  obtain ⟨S, hW, hN⟩ := hO.wr.new (w.heap.size + 3) (fun b h => by have := h.1; (try simp only [World.size_alloc] at this); omega)
  go_wp2
  have o0 : (u1.alloc (.cells #[.int .i64 r, .slice A' xs.length c'] 24)).cell? ⟨u1.heap.size, 0, none⟩ = some (.int .i64 r) := by simp [go_sem]
  have o1 : (u1.alloc (.cells #[.int .i64 r, .slice A' xs.length c'] 24)).cell? ⟨u1.heap.size, 1, none⟩ = some (.slice A' xs.length c') := by simp [go_sem]
  have hbW : Below w.heap.size w (u1.alloc (.cells #[.int .i64 r, .slice A' xs.length c'] 24)) := by (repeat' (first | (with_reducible exact Below.refl _ _) | (with_reducible refine bel_alloc ?_ ?_ _) | (with_reducible refine Below.setCell ?_ ?_ _) | (with_reducible refine below_drewN ?_ _) | (with_reducible refine Below.drew ?_) | (with_reducible refine bel_step hb1 ?_ ?_) | (with_reducible exact Nat.le_refl _) | (with_reducible assumption) | omega | (simp only [World.size_alloc, World.size_setCell, World.size_drew]; omega) | (simp; omega) | (simp; done)))
  clear lq0 lx0 lf0 f0c f0f f1c f1f hz1
  replace q0 := cell_al q0 (.cells #[.int .i64 r, .slice A' xs.length c'] 24)
  replace q1 := cell_al q1 (.cells #[.int .i64 r, .slice A' xs.length c'] 24)
  replace x0 := cell_al x0 (.cells #[.int .i64 r, .slice A' xs.length c'] 24)
  replace x1 := cell_al x1 (.cells #[.int .i64 r, .slice A' xs.length c'] 24)
  replace x2 := cell_al x2 (.cells #[.int .i64 r, .slice A' xs.length c'] 24)
  replace f0 := f0.alloc (.cells #[.int .i64 r, .slice A' xs.length c'] 24)
  replace f1 := f1.alloc (.cells #[.int .i64 r, .slice A' xs.length c'] 24)
  replace hr := hr.alloc (.cells #[.int .i64 r, .slice A' xs.length c'] 24)
  replace hO := hO.alloc (.cells #[.int .i64 r, .slice A' xs.length c'] 24)
  replace hW := hW.alloc (.cells #[.int .i64 r, .slice A' xs.length c'] 24)
  have hu1 : w.heap.size + 3 ≤ u1.heap.size := by have := hb1.size; simp only [World.size_alloc] at this; omega
  have huW : u1.heap.size < (u1.alloc (.cells #[.int .i64 r, .slice A' xs.length c'] 24)).heap.size := by simp
  clear hb1
  generalize u1.alloc (.cells #[.int .i64 r, .slice A' xs.length c'] 24) = W at *
  have k0 := cell_regrown q0
  have k1 := cell_regrown q1
  have k2 := cell_regrown x0
  have k3 := cell_regrown x1
  have k4 := cell_regrown x2
  have hrW := hr.lt
  cases hv1 : qOkB r xs
  · clear hno
    have cE1 := fun d os => Calls.regrown_of (quarOk_s r A xs.length c xs (Go.Sort.grow (redrawn W d) os) _ (hrW.below (below_regrown W d os)) rfl hn hcap hv1)
    refine wp_region_quiet_below (by kernel_rfl) (by kernel_rfl) ?_
    repeat (first | go_big_quiet_step (first | (with_reducible exact cE1 _ _)) | quiet_step (first | (with_reducible exact cE1 _ _)))
    refine wpQuiet_nil ?_
    intro _ hw_q
    obtain ⟨⟨dq, osq⟩, hw_q'⟩ := hw_q
    subst hw_q'
    have hbq := below_regrown W dq osq
    generalize Go.Sort.grow (redrawn W dq) osq = wq at *
    replace o0 := keep hbq o0
    replace o1 := keep hbq o1
    replace f0 := f0.below hbq
    replace f1 := f1.below hbq
    replace hW := hW.below hbq
    have hqs := hbq.size
    have f0c := f0.1
    have f0f := f0.2
    have f1c := f1.1
    have f1f := f1.2
    have lf0 := lt_of_cell' f0c
    have f0d := cell_al ((Cl.same f0 (.int .i64 r)).other (q := ⟨w.heap.size + 1 + 1, 1, none⟩) (.slice A' xs.length c') (by simp)).1 (.cells #[] 47)
    have f1d := cell_al ((f1.other (q := ⟨w.heap.size + 1 + 1, 0, none⟩) (.int .i64 r) (by simp)).same (.slice A' xs.length c')).1 (.cells #[] 47)
    go_wp2
    refine bodyPost_ret (v := .tuple #[.agg #[.int .i64 r, .slice A' xs.length c'], .slice (some ⟨wq.heap.size, 0, none⟩) 0 0]) (by simp [results, Try.results31, go_sem, f0c, f1c, f0d, f1d]) rfl ⟨A', c', some ⟨wq.heap.size, 0, none⟩, 0, S, fun _ => False, rfl, by (repeat' (first | (with_reducible exact hW) | (with_reducible refine Wr.setOut ?_ _ (fun h => by have := hN _ h; first | omega | (simp at this; omega))) | (with_reducible refine Wr.alloc ?_ _) | (with_reducible refine Wr.drewN ?_ _) | (with_reducible refine Wr.drew ?_))), .inl rfl, New.mk hN (by omega) (by simp; omega), fun _ h => h.elim, fun _ _ h => h, by (repeat' (first | (with_reducible exact Below.refl _ _) | (with_reducible refine bel_alloc ?_ ?_ _) | (with_reducible refine Below.setCell ?_ ?_ _) | (with_reducible refine below_drewN ?_ _) | (with_reducible refine Below.drew ?_) | (with_reducible refine bel_step hbq ?_ ?_) | (with_reducible refine bel_step hbW ?_ ?_) | (with_reducible exact Nat.le_refl _) | (with_reducible assumption) | omega | (simp only [World.size_alloc, World.size_setCell, World.size_drew]; omega) | (simp; omega) | (simp; done))), HCAP.out⟩
  have hst : stOk xs (x, y, z) = false := by rcases hno with h | h; rw [hv1] at h; cases h; exact h
  clear hno
  have cE1 := fun d os => Calls.regrown_of (quarOk_s r A xs.length c xs (Go.Sort.grow (redrawn W d) os) _ (hrW.below (below_regrown W d os)) rfl hn hcap hv1)
  clear hv1
  cases hv2 : stOne (x, y, z)
  · have cE2 := fun d os => Calls.regrown_of (l22One_s x y z (Go.Sort.grow (redrawn W d) os) _ hv2)
    clear hv2 hst
    refine wp_region_quiet_below (by kernel_rfl) (by kernel_rfl) ?_
    repeat (first | go_big_quiet_step (first | (with_reducible exact cE1 _ _) | (with_reducible exact cE2 _ _)) | quiet_step (first | (with_reducible exact cE1 _ _) | (with_reducible exact cE2 _ _)))
    refine wpQuiet_nil ?_
    intro _ hw_q
    obtain ⟨⟨dq, osq⟩, hw_q'⟩ := hw_q
    subst hw_q'
    have hbq := below_regrown W dq osq
    generalize Go.Sort.grow (redrawn W dq) osq = wq at *
    replace o0 := keep hbq o0
    replace o1 := keep hbq o1
    replace f0 := f0.below hbq
    replace f1 := f1.below hbq
    replace hW := hW.below hbq
    have hqs := hbq.size
    have f0c := f0.1
    have f0f := f0.2
    have f1c := f1.1
    have f1f := f1.2
    have lf0 := lt_of_cell' f0c
    have f0d := cell_al ((Cl.same f0 (.int .i64 r)).other (q := ⟨w.heap.size + 1 + 1, 1, none⟩) (.slice A' xs.length c') (by simp)).1 (.cells #[] 47)
    have f1d := cell_al ((f1.other (q := ⟨w.heap.size + 1 + 1, 0, none⟩) (.int .i64 r) (by simp)).same (.slice A' xs.length c')).1 (.cells #[] 47)
    go_wp2
    refine bodyPost_ret (v := .tuple #[.agg #[.int .i64 r, .slice A' xs.length c'], .slice (some ⟨wq.heap.size, 0, none⟩) 0 0]) (by simp [results, Try.results31, go_sem, f0c, f1c, f0d, f1d]) rfl ⟨A', c', some ⟨wq.heap.size, 0, none⟩, 0, S, fun _ => False, rfl, by (repeat' (first | (with_reducible exact hW) | (with_reducible refine Wr.setOut ?_ _ (fun h => by have := hN _ h; first | omega | (simp at this; omega))) | (with_reducible refine Wr.alloc ?_ _) | (with_reducible refine Wr.drewN ?_ _) | (with_reducible refine Wr.drew ?_))), .inl rfl, New.mk hN (by omega) (by simp; omega), fun _ h => h.elim, fun _ _ h => h, by (repeat' (first | (with_reducible exact Below.refl _ _) | (with_reducible refine bel_alloc ?_ ?_ _) | (with_reducible refine Below.setCell ?_ ?_ _) | (with_reducible refine below_drewN ?_ _) | (with_reducible refine Below.drew ?_) | (with_reducible refine bel_step hbq ?_ ?_) | (with_reducible refine bel_step hbW ?_ ?_) | (with_reducible exact Nat.le_refl _) | (with_reducible assumption) | omega | (simp only [World.size_alloc, World.size_setCell, World.size_drew]; omega) | (simp; omega) | (simp; done))), HCAP.out⟩
  have cE2 := fun d os => Calls.regrown_of (l22One_s x y z (Go.Sort.grow (redrawn W d) os) _ hv2)
  cases hv3 : hasA xs x
  rotate_left
  · have cE3 := fun d os => Calls.regrown_of (by have h := quarHas_s r A xs.length c xs x (Go.Sort.grow (redrawn W d) os) (hrW.below (below_regrown W d os)) rfl hn; rw [hv3] at h; exact h)
    clear hv2 hst hv3
    refine wp_region_quiet_below (by kernel_rfl) (by kernel_rfl) ?_
    repeat (first | go_big_quiet_step (first | (with_reducible exact cE1 _ _) | (with_reducible exact cE2 _ _) | (with_reducible exact cE3 _ _)) | quiet_step (first | (with_reducible exact cE1 _ _) | (with_reducible exact cE2 _ _) | (with_reducible exact cE3 _ _)))
    refine wpQuiet_nil ?_
    intro _ hw_q
    obtain ⟨⟨dq, osq⟩, hw_q'⟩ := hw_q
    subst hw_q'
    have hbq := below_regrown W dq osq
    generalize Go.Sort.grow (redrawn W dq) osq = wq at *
    replace o0 := keep hbq o0
    replace o1 := keep hbq o1
    replace f0 := f0.below hbq
    replace f1 := f1.below hbq
    replace hW := hW.below hbq
    have hqs := hbq.size
    have f0c := f0.1
    have f0f := f0.2
    have f1c := f1.1
    have f1f := f1.2
    have lf0 := lt_of_cell' f0c
    have f0d := cell_al ((Cl.same f0 (.int .i64 r)).other (q := ⟨w.heap.size + 1 + 1, 1, none⟩) (.slice A' xs.length c') (by simp)).1 (.cells #[] 47)
    have f1d := cell_al ((f1.other (q := ⟨w.heap.size + 1 + 1, 0, none⟩) (.int .i64 r) (by simp)).same (.slice A' xs.length c')).1 (.cells #[] 47)
    go_wp2
    refine bodyPost_ret (v := .tuple #[.agg #[.int .i64 r, .slice A' xs.length c'], .slice (some ⟨wq.heap.size, 0, none⟩) 0 0]) (by simp [results, Try.results31, go_sem, f0c, f1c, f0d, f1d]) rfl ⟨A', c', some ⟨wq.heap.size, 0, none⟩, 0, S, fun _ => False, rfl, by (repeat' (first | (with_reducible exact hW) | (with_reducible refine Wr.setOut ?_ _ (fun h => by have := hN _ h; first | omega | (simp at this; omega))) | (with_reducible refine Wr.alloc ?_ _) | (with_reducible refine Wr.drewN ?_ _) | (with_reducible refine Wr.drew ?_))), .inl rfl, New.mk hN (by omega) (by simp; omega), fun _ h => h.elim, fun _ _ h => h, by (repeat' (first | (with_reducible exact Below.refl _ _) | (with_reducible refine bel_alloc ?_ ?_ _) | (with_reducible refine Below.setCell ?_ ?_ _) | (with_reducible refine below_drewN ?_ _) | (with_reducible refine Below.drew ?_) | (with_reducible refine bel_step hbq ?_ ?_) | (with_reducible refine bel_step hbW ?_ ?_) | (with_reducible exact Nat.le_refl _) | (with_reducible assumption) | omega | (simp only [World.size_alloc, World.size_setCell, World.size_drew]; omega) | (simp; omega) | (simp; done))), HCAP.out⟩
  have cE3 := fun d os => Calls.regrown_of (by have h := quarHas_s r A xs.length c xs x (Go.Sort.grow (redrawn W d) os) (hrW.below (below_regrown W d os)) rfl hn; rw [hv3] at h; exact h)
  have hlen : xs.length ≠ 0 := by intro h0; simp [stOk, hv2, hv3, h0] at hst
  obtain ⟨m, hm⟩ : ∃ m, m = xs.length - 1 := ⟨_, rfl⟩
  have hm1 : m < xs.length := by omega
  obtain ⟨b1, off1, rfl, -, -, -, hd2⟩ := hrW.trip (k := m) hm1
  obtain ⟨t, ht⟩ : ∃ t, t = xs[m].2.2 := ⟨_, rfl⟩
  rw [← ht] at hd2
  have HL := Lib.hid (show lastS xs = t by rw [lastS_eq (m := m) (by omega), ht])
  have k5 := cell_regrown hd2
  have hnd : decide (0 < xs.length) = true := by simp; omega
  have hn0 : 0 < xs.length := by omega
  have hs1 : IntKind.i64.wrap ((xs.length : Int) - 1) = (m : Int) := by rw [IntWalk.i64_in _ (by omega)]; omega
  clear ht hm
  
  have htz : z < t := by simp [stOk, hv2, hv3, HL.out] at hst; omega
  clear hst hv2 hv3 hlen
  refine wp_region_quiet_below (by kernel_rfl) (by kernel_rfl) ?_
  repeat (first | go_big_quiet_step (first | (with_reducible exact cE1 _ _) | (with_reducible exact cE2 _ _) | (with_reducible exact cE3 _ _)) | quiet_step (first | (with_reducible exact cE1 _ _) | (with_reducible exact cE2 _ _) | (with_reducible exact cE3 _ _)))
  refine wpQuiet_nil ?_
  intro _ hw_q
  obtain ⟨⟨dq, osq⟩, hw_q'⟩ := hw_q
  subst hw_q'
  have hbq := below_regrown W dq osq
  generalize Go.Sort.grow (redrawn W dq) osq = wq at *
  replace o0 := keep hbq o0
  replace o1 := keep hbq o1
  replace f0 := f0.below hbq
  replace f1 := f1.below hbq
  replace hW := hW.below hbq
  have hqs := hbq.size
  have f0c := f0.1
  have f0f := f0.2
  have f1c := f1.1
  have f1f := f1.2
  have lf0 := lt_of_cell' f0c
  have f0d := cell_al ((Cl.same f0 (.int .i64 r)).other (q := ⟨w.heap.size + 1 + 1, 1, none⟩) (.slice A' xs.length c') (by simp)).1 (.cells #[] 47)
  have f1d := cell_al ((f1.other (q := ⟨w.heap.size + 1 + 1, 0, none⟩) (.int .i64 r) (by simp)).same (.slice A' xs.length c')).1 (.cells #[] 47)
  go_wp2
  refine bodyPost_ret (v := .tuple #[.agg #[.int .i64 r, .slice A' xs.length c'], .slice (some ⟨wq.heap.size, 0, none⟩) 0 0]) (by simp [results, Try.results31, go_sem, f0c, f1c, f0d, f1d]) rfl ⟨A', c', some ⟨wq.heap.size, 0, none⟩, 0, S, fun _ => False, rfl, by (repeat' (first | (with_reducible exact hW) | (with_reducible refine Wr.setOut ?_ _ (fun h => by have := hN _ h; first | omega | (simp at this; omega))) | (with_reducible refine Wr.alloc ?_ _) | (with_reducible refine Wr.drewN ?_ _) | (with_reducible refine Wr.drew ?_))), .inl rfl, New.mk hN (by omega) (by simp; omega), fun _ h => h.elim, fun _ _ h => h, by (repeat' (first | (with_reducible exact Below.refl _ _) | (with_reducible refine bel_alloc ?_ ?_ _) | (with_reducible refine Below.setCell ?_ ?_ _) | (with_reducible refine below_drewN ?_ _) | (with_reducible refine Below.drew ?_) | (with_reducible refine bel_step hbq ?_ ?_) | (with_reducible refine bel_step hbW ?_ ?_) | (with_reducible exact Nat.le_refl _) | (with_reducible assumption) | omega | (simp only [World.size_alloc, World.size_setCell, World.size_drew]; omega) | (simp; omega) | (simp; done))), HCAP.out⟩
set_option maxHeartbeats 16000000 in
theorem quarAdd_s_yes (r : Int) (A : Option Addr) (n c : Nat) (xs : List St) (x y z : Int) (w : World) {B : Nat} (hr : Rd w B A (tv xs)) (hl : xs.length = n) (hn : n ≤ 1048576) (hcap : n ≤ c ∧ c ≤ maxLen) (hv1 : qOkB r xs = true) (hst : stOk xs (x, y, z) = true) (hr0 : 0 ≤ r) (ys zs : List St) (hys : ys = (xs ++ [(x, y, z)]).drop (addN r (xs ++ [(x, y, z)]))) (hzs : zs = (xs ++ [(x, y, z)]).take (addN r (xs ++ [(x, y, z)]))) :
    Calls Try.prog 31 #[.agg #[.int .i64 r, .slice A n c], .agg #[.int .i64 x, .int .i64 y, .int .i64 z]] w (MadeAddC r ys zs w) := by
  subst hl
  obtain ⟨i0, hi, iz0, iz1, iz2⟩ := info_parts infoStale
  have HYS := Lib.hid hys
  have HZS := Lib.hid hzs
  clear hys hzs
  have hv2 : stOne (x, y, z) = true := by simp only [stOk, Bool.and_eq_true] at hst; exact hst.1.1
  have hv3 : hasA xs x = false := by simp only [stOk, Bool.and_eq_true, Bool.not_eq_true'] at hst; exact hst.1.2
  have hv4 : xs.length = 0 ∨ lastS xs ≤ z := by simp only [stOk, Bool.and_eq_true, Bool.or_eq_true, decide_eq_true_eq] at hst; exact hst.2
  have HV := Lib.hid hv4
  clear hv4 hst
  go_enter Try.func31, Try.ntmps31
  go_wp2_with fail
  refine (l22Copy_any _ _ _ _ _ _ (((hr.alloc _).alloc _).alloc _) rfl (by omega)).mono ?_
  rintro e u1 ⟨A', c', rfl, hO, hb1⟩
  have HCAP := Lib.hid hO.cap
  replace hr := (((hr.alloc _).alloc _).alloc _).below hb1
  have q0 : u1.cell? ⟨w.heap.size, 0, none⟩ = some (.int .i64 r) := keep hb1 (by simp [go_sem])
  have q1 : u1.cell? ⟨w.heap.size, 1, none⟩ = some (.slice A xs.length c) := keep hb1 (by simp [go_sem])
  have x0 : u1.cell? ⟨w.heap.size + 1, 0, none⟩ = some (.int .i64 x) := keep hb1 (by simp [go_sem])
  have x1 : u1.cell? ⟨w.heap.size + 1, 1, none⟩ = some (.int .i64 y) := keep hb1 (by simp [go_sem])
  have x2 : u1.cell? ⟨w.heap.size + 1, 2, none⟩ = some (.int .i64 z) := keep hb1 (by simp [go_sem])
  have f0 : Cl u1 ⟨w.heap.size + 1 + 1, 0, none⟩ (.int .i64 0) := Cl.below (by constructor <;> simp [go_sem]) hb1
  have f1 : Cl u1 ⟨w.heap.size + 1 + 1, 1, none⟩ (.slice none 0 0) := Cl.below (by constructor <;> simp [go_sem]) hb1
  have hz1 := hb1.size
  try simp only [World.size_alloc, World.size_drew] at hz1
  have lq0 := lt_of_cell' q0
  have lx0 := lt_of_cell' x0
  have f0c := f0.1
  have f0f := f0.2
  have lf0 := lt_of_cell' f0c
  have f1c := f1.1
  have f1f := f1.2
  replace hO := hO.mono (lo' := w.heap.size + 3) (by simp only [World.size_alloc]; omega) (Nat.le_refl _)
  obtain ⟨S, hW, hN⟩ := hO.wr.new (w.heap.size + 3) (fun b h => by have := h.1; (try simp only [World.size_alloc] at this); omega)
  go_wp2
  have o0 : (u1.alloc (.cells #[.int .i64 r, .slice A' xs.length c'] 24)).cell? ⟨u1.heap.size, 0, none⟩ = some (.int .i64 r) := by simp [go_sem]
  have o1 : (u1.alloc (.cells #[.int .i64 r, .slice A' xs.length c'] 24)).cell? ⟨u1.heap.size, 1, none⟩ = some (.slice A' xs.length c') := by simp [go_sem]
  have hbW : Below w.heap.size w (u1.alloc (.cells #[.int .i64 r, .slice A' xs.length c'] 24)) := by (repeat' (first | (with_reducible exact Below.refl _ _) | (with_reducible refine bel_alloc ?_ ?_ _) | (with_reducible refine Below.setCell ?_ ?_ _) | (with_reducible refine below_drewN ?_ _) | (with_reducible refine Below.drew ?_) | (with_reducible refine bel_step hb1 ?_ ?_) | (with_reducible exact Nat.le_refl _) | (with_reducible assumption) | omega | (simp only [World.size_alloc, World.size_setCell, World.size_drew]; omega) | (simp; omega) | (simp; done)))
  clear lq0 lx0 lf0 f0c f0f f1c f1f hz1
  replace q0 := cell_al q0 (.cells #[.int .i64 r, .slice A' xs.length c'] 24)
  replace q1 := cell_al q1 (.cells #[.int .i64 r, .slice A' xs.length c'] 24)
  replace x0 := cell_al x0 (.cells #[.int .i64 r, .slice A' xs.length c'] 24)
  replace x1 := cell_al x1 (.cells #[.int .i64 r, .slice A' xs.length c'] 24)
  replace x2 := cell_al x2 (.cells #[.int .i64 r, .slice A' xs.length c'] 24)
  replace f0 := f0.alloc (.cells #[.int .i64 r, .slice A' xs.length c'] 24)
  replace f1 := f1.alloc (.cells #[.int .i64 r, .slice A' xs.length c'] 24)
  replace hr := hr.alloc (.cells #[.int .i64 r, .slice A' xs.length c'] 24)
  replace hO := hO.alloc (.cells #[.int .i64 r, .slice A' xs.length c'] 24)
  replace hW := hW.alloc (.cells #[.int .i64 r, .slice A' xs.length c'] 24)
  have hu1 : w.heap.size + 3 ≤ u1.heap.size := by have := hb1.size; simp only [World.size_alloc] at this; omega
  have huW : u1.heap.size < (u1.alloc (.cells #[.int .i64 r, .slice A' xs.length c'] 24)).heap.size := by simp
  clear hb1
  generalize u1.alloc (.cells #[.int .i64 r, .slice A' xs.length c'] 24) = W at *
  have k0 := cell_regrown q0
  have k1 := cell_regrown q1
  have k2 := cell_regrown x0
  have k3 := cell_regrown x1
  have k4 := cell_regrown x2
  have hrW := hr.lt
  have cE1 := fun d os => Calls.regrown_of (quarOk_s r A xs.length c xs (Go.Sort.grow (redrawn W d) os) _ (hrW.below (below_regrown W d os)) rfl hn hcap hv1)
  have cE2 := fun d os => Calls.regrown_of (l22One_s x y z (Go.Sort.grow (redrawn W d) os) _ hv2)
  have cE3 := fun d os => Calls.regrown_of (by have h := quarHas_s r A xs.length c xs x (Go.Sort.grow (redrawn W d) os) (hrW.below (below_regrown W d os)) rfl hn; rw [hv3] at h; exact h)
  clear hv1 hv2 hv3
  by_cases hx0 : xs.length = 0
  · have hnd : decide (0 < xs.length) = false := decide_eq_false (by omega)
    have HX := Lib.hid hx0
    clear hx0
    refine wp_region_quiet_below (by kernel_rfl) (by kernel_rfl) ?_
    repeat (first | go_big_quiet_step (first | (with_reducible exact cE1 _ _) | (with_reducible exact cE2 _ _) | (with_reducible exact cE3 _ _)) | quiet_step (first | (with_reducible exact cE1 _ _) | (with_reducible exact cE2 _ _) | (with_reducible exact cE3 _ _)))
    refine wpQuiet_nil ?_
    intro _ hw_q
    obtain ⟨⟨dq, osq⟩, hw_q'⟩ := hw_q
    subst hw_q'
    have hbq := below_regrown W dq osq
    generalize Go.Sort.grow (redrawn W dq) osq = wq at *
    replace q0 := keep hbq q0
    replace x0 := keep hbq x0
    replace x1 := keep hbq x1
    replace x2 := keep hbq x2
    replace o0 := keep hbq o0
    replace o1 := keep hbq o1
    replace f0 := f0.below hbq
    replace f1 := f1.below hbq
    replace hO := hO.below hbq
    replace hbW := bel_step hbq hbW (Nat.le_refl _)
    have hqs := hbq.size
    clear k0 k1 k2 k3 k4 q1 hr hrW cE1 cE2 cE3 hW hN hbq
    go_wp2_with (at_builtin; refine wpList_append_ow rfl (.tmp 48) (.tmp 50) _ rfl 47 i0 (.agg #[.int .i64 0, .int .i64 0, .int .i64 0]) 3 24 Try.underlying22 hi iz0 iz1 iz2 rfl (by omega) (w.heap.size + 3) A' xs.length c' (tv xs) rfl (hO.alloc _).1 (some ⟨wq.heap.size, 0, none⟩) 1 1 (tv [(x, y, z)]) rfl rfl (Rd.lit rfl) (tv_one _) (by unfold maxLen; omega) (by omega) (by simp; omega) ?_; intro A2 c2 u4 hO2 hS4 hA2)
    have hcap2 := (Ow.mk' hO2).cap
    have hW2 := (Ow.mk' hO2).wr1
    have hz4 := hS4.size
    simp only [World.size_alloc] at hz4
    have hl4 : ∀ b, (∃ o, A' = some ⟨b, o, none⟩) → w.heap.size ≤ b := by
      rintro b hb
      rcases Nat.lt_or_ge b w.heap.size with h | h
      · exact absurd hb (hO.apart (.inl (by omega)))
      · exact h
    replace q0 := hS4.cell (cell_al q0 (.cells #[.int .i64 x, .int .i64 y, .int .i64 z] 47)) (hO.apart (.inl (by show w.heap.size < _; omega)))
    replace f0 := Cl.outS (f0.alloc (.cells #[.int .i64 x, .int .i64 y, .int .i64 z] 47)) hS4 (hO.apart (.inl (by show w.heap.size + 1 + 1 < _; omega)))
    replace f1 := Cl.outS (f1.alloc (.cells #[.int .i64 x, .int .i64 y, .int .i64 z] 47)) hS4 (hO.apart (.inl (by show w.heap.size + 1 + 1 < _; omega)))
    have hbU : Below w.heap.size w u4 := by (repeat' (first | (with_reducible exact Below.refl _ _) | (with_reducible refine bel_alloc ?_ ?_ _) | (with_reducible refine Below.setCell ?_ ?_ _) | (with_reducible refine below_drewN ?_ _) | (with_reducible refine Below.drew ?_) | (with_reducible refine bel_step hbW ?_ ?_) | (with_reducible refine bel_outS hS4 hl4 ?_ ?_) | (with_reducible exact Nat.le_refl _) | (with_reducible assumption) | omega | (simp only [World.size_alloc, World.size_setCell, World.size_drew]; omega) | (simp; omega) | (simp; done)))
    clear x0 x1 x2 o0 o1 hO2 hS4 hA2 hO hl4 hbW
    obtain ⟨al, hal⟩ : ∃ al, al = xs ++ [(x, y, z)] := ⟨_, rfl⟩
    rw [← hal] at HYS HZS
    rw [tv_snoc, ← hal] at hW2
    have hall : al.length = xs.length + 1 := by rw [hal]; simp
    clear hal
    have HL2 := Lib.hid hall
    clear hall
    have hN1 : xs.length + 1 ≤ 1048577 := by omega
    generalize xs.length + 1 = N at *
    go_loopw [9] (fun v wr => ∃ k : Nat, k ≤ N ∧ v = .int .i64 k ∧ (∀ j, j < k → r < qsum (al.drop j)) ∧ Below u4.heap.size u4 wr) (fun v _ => N - (intOf v).toNat)
    case atStart => exact ⟨0, Nat.zero_le _, rfl, fun j hj => absurd hj (by omega), Below.refl _ _⟩
    case round =>
      obtain ⟨k, hk, rfl, hj, hbr⟩ := hrel
      have HJ := Lib.hid hj
      clear hj
      have p0 := keep hbr q0
      replace hW2 := hW2.below hbr
      have j0 : (0 : Int) ≤ (k : Int) := by omega
      have j1 : (k : Int) ≤ (N : Int) := by omega
      have j2 : (k : Int) ≤ (c2 : Int) := by omega
      by_cases hkn : k < N
      · have hck : ¬ c2 = k := by omega
        obtain ⟨g, off, rfl⟩ : ∃ g off, A2 = some ⟨g, off, none⟩ := by
          have := HL2.out
          rcases hW2 with h | ⟨b, off, h, _⟩
          · have := tv_length al; rw [h] at this; simp at this; omega
          · exact ⟨b, off, h⟩
        have hrd := hW2.rd
        rw [tv_take al k] at hrd
        replace hrd := hrd.post
        have htk : (tv (al.take k)).length = k * 3 := by rw [tv_length, List.length_take, HL2.out, Nat.min_eq_left (by omega)]
        rw [htk] at hrd
        have hdl := Lib.hid (show (al.drop k).length = N - k by rw [List.length_drop, HL2.out])
        clear htk
        have cQ := fun W h => l22Cells_s (some ⟨g, off + k * 3, none⟩) (N - k) (c2 - k) (al.drop k) W (B := wr.heap.size) h hdl.out (by omega)
        have HQ := Lib.hid cQ
        clear cQ
        obtain ⟨t, ht⟩ : ∃ t, t = qsum (al.drop k) := ⟨_, rfl⟩
        rw [← ht] at HQ
        have HT := Lib.hid ht
        clear ht
        have k0 := cell_regrown p0
        have cE := fun d os => Calls.regrown_of ((HQ.out (Go.Sort.grow (redrawn wr d) os) (hrd.below (below_regrown wr d os))).mono fun _ _ ⟨h1, h2⟩ => ⟨h1, by rw [h2]; exact Below.refl _ _⟩)
        by_cases hgt : r < t
        · go_wp2
          refine wp_region_quiet_below (by kernel_rfl) (by kernel_rfl) ?_
          repeat (first | go_big_quiet_step (first | (with_reducible exact cE _ _)) | quiet_step (first | (with_reducible exact cE _ _)))
          refine wpQuiet_nil ?_
          intro _ hw_q
          obtain ⟨⟨dq, osq⟩, hw_q'⟩ := hw_q
          subst hw_q'
          have hbq := below_regrown wr dq osq
          generalize Go.Sort.grow (redrawn wr dq) osq = wq at *
          go_wp2
          go_roundw
          case rel =>
            refine ⟨k + 1, by omega, by go_num, fun j hj => ?_, ?_⟩
            · by_cases e : j = k
              · subst e; rw [← HT.out]; exact hgt
              · exact HJ.out j (by omega)
            · (repeat' (first | (with_reducible exact Below.refl _ _) | (with_reducible refine bel_alloc ?_ ?_ _) | (with_reducible refine Below.setCell ?_ ?_ _) | (with_reducible refine below_drewN ?_ _) | (with_reducible refine Below.drew ?_) | (with_reducible refine bel_step hbq ?_ ?_) | (with_reducible refine bel_step hbr ?_ ?_) | (with_reducible exact Nat.le_refl _) | (with_reducible assumption) | omega | (simp only [World.size_alloc, World.size_setCell, World.size_drew]; omega) | (simp; omega) | (simp; done)))
          case measure => simp [intOf]; omega
        · have hkk : addN r al = k := addN_spec HJ.out (by rw [← HT.out]; omega) (by rw [HL2.out]; omega)
          have hys : ys = al.drop k := by rw [HYS.out, hkk]
          have hzs : zs = al.take k := by rw [HZS.out, hkk]
          have hrz := hW2.rd
          rw [tv_take al k] at hrz
          replace hrz := hrz.pre
          rw [← hzs] at hrz
          rw [← hys] at hrd
          have hly2 := Lib.hid (show ys.length = N - k by rw [hys, List.length_drop, HL2.out])
          have hlz2 := Lib.hid (show zs.length = k by rw [hzs, List.length_take, HL2.out]; omega)
          have hly := Lib.hid (show (tv ys).length = (N - k) * 3 by rw [tv_length, hly2.out])
          have hlz := Lib.hid (show (tv zs).length = k * 3 by rw [tv_length, hlz2.out])
          have hony := Lib.hid (tv_one ys)
          have honz := Lib.hid (tv_one zs)
          clear hkk hys hzs
          go_wp2
          refine wp_region_quiet_below (by kernel_rfl) (by kernel_rfl) ?_
          repeat (first | go_big_quiet_step (first | (with_reducible exact cE _ _)) | quiet_step (first | (with_reducible exact cE _ _)))
          refine wpQuiet_nil ?_
          intro _ hw_q
          obtain ⟨⟨dq, osq⟩, hw_q'⟩ := hw_q
          subst hw_q'
          have hbq := below_regrown wr dq osq
          generalize Go.Sort.grow (redrawn wr dq) osq = wq at *
          have HB := bel_step hbq hbr (Nat.le_refl _)
          have hzq := HB.size
          have p1 := keep hbq p0
          have f0D := (show Cl wq.drew _ _ from (show Cl wq _ _ from f0.below HB))
          have f1D := (show Cl wq.drew _ _ from (show Cl wq _ _ from f1.below HB))
          have hn1 : ¬ w.heap.size + 1 + 1 = w.heap.size := by omega
          have hn2 : ¬ w.heap.size = w.heap.size + 1 + 1 := by omega
          have lf0 : w.heap.size + 1 + 1 < wq.heap.size := lt_of_cell' f0D.1
          clear k0
          have hrdD := (hrd.below hbq).lt.drew
          have hrzD := (hrz.below hbq).lt.drew
          go_wp2
          go_region_held3 (fun w' => w'.cell? ⟨w.heap.size, 0, none⟩ = some (.int .i64 r)) (first | go_keep | (refine (hS5.cell ?_ (by simp <;> omega)) <;> go_keep) | (refine (hS6.cell ?_ (by simp <;> omega)) <;> go_keep))
            (first | ((refine step_append_new (by rfl) (.tmp 63) (.tmp 66) _ (by rfl) 47 i0 (.agg #[.int .i64 0, .int .i64 0, .int .i64 0]) 3 24 Try.underlying22 hi iz0 iz1 iz2 rfl (by omega) _ (by rfl) (own_blk (by first | (refine blk_new ?_; simp; done) | (refine blk_al (blk_new ?_); simp; done))) (some ⟨g, off + k * 3, none⟩) (N - k) (c2 - k) (tv ys) (by rfl) hly.out (B := wq.heap.size) (by first | exact hrdD.alloc _ | exact (hrdD.alloc _).alloc _) hony.out (by unfold maxLen; omega) (by omega) (by first | omega | (simp <;> omega)) ?_; intro A5 c5 w5 hO5 hS5 hA5; (try simp only [World.size_alloc, World.size_drew] at hA5); have HA5 := Lib.hid hA5; clear hA5; have hrz5 := Rd.outS (B := wq.heap.size) (show Rd _ _ (some ⟨g, off, none⟩) (tv zs) by first | exact hrzD.alloc _ | exact (hrzD.alloc _).alloc _) hS5 (fun b hb => by rw [show b = _ from hb]; first | exact Nat.le_refl _ | exact Nat.le_succ _ | (simp <;> omega)); have f0m := Cl.outS (show Cl _ _ _ by first | exact f0D.alloc _ | exact (f0D.alloc _).alloc _) hS5 (by simp <;> omega); have f1m := Cl.outS (show Cl _ _ _ by first | exact f1D.alloc _ | exact (f1D.alloc _).alloc _) hS5 (by simp <;> omega); have hz55 := hS5.size; simp only [World.size_alloc, World.size_drew] at hz55)) | ((refine step_append_new (by rfl) (.tmp 69) (.tmp 72) _ (by rfl) 47 i0 (.agg #[.int .i64 0, .int .i64 0, .int .i64 0]) 3 24 Try.underlying22 hi iz0 iz1 iz2 rfl (by omega) _ (by rfl) (own_blk (by first | exact blk_new rfl | exact blk_out (by first | (refine blk_new ?_; simp; done) | (refine blk_al (blk_new ?_); simp; done)) hS5 (by simp <;> omega))) (some ⟨g, off, none⟩) k c2 (tv zs) (by rfl) hlz.out (B := wq.heap.size) (by first | exact hrz5 | exact hrz5.alloc _) honz.out (by unfold maxLen; omega) (by omega) (by first | omega | (simp <;> omega)) ?_; intro A6 c6 w6 hO6 hS6 hA6; (try simp only [World.size_alloc, World.size_drew] at hA6); have HA6 := Lib.hid hA6; clear hA6; have f0n := Cl.outS (show Cl _ _ _ by first | exact f0m | exact f0m.alloc _) hS6 (by simp <;> omega); have f0c := f0n.1; have f0f := f0n.2; have f1n := Cl.outS (show Cl _ _ _ by first | exact f1m | exact f1m.alloc _) hS6 (by simp <;> omega); have f1c := f1n.1; have f1f := f1n.2)) | fail)
          all_goals
            have hz66 := hS6.size
            try simp only [World.size_alloc, World.size_drew] at hz66
            have hX5 : ∀ b, (∃ o, A5 = some ⟨b, o, none⟩) → wq.heap.size ≤ b ∧ b < w5.heap.size := by
              rintro b ⟨o, h⟩
              have h1 := hO5.2 _ h
              have h2 := HA5.out b o h
              simp only at h1
              omega
            have hX6 : ∀ b, (∃ o, A6 = some ⟨b, o, none⟩) → wq.heap.size ≤ b ∧ b < w6.heap.size := by
              rintro b ⟨o, h⟩
              have h1 := hO6.2 _ h
              have h2 := HA6.out b o h
              simp only at h1
              omega
            have hD : ∀ b, (∃ o, A5 = some ⟨b, o, none⟩) → ¬ ∃ o, A6 = some ⟨b, o, none⟩ := by
              rintro b ⟨o, h⟩ ⟨o2, h2⟩
              have h3 := HA5.out b o h
              have h4 := HA6.out b o2 h2
              have h5 := hX5 b ⟨o, h⟩
              omega
            have hW5 : Wr w6 _ A5 (tv ys) := Wr.outS (by first | exact hO5.wr1 | exact hO5.wr1.alloc _) hS6 (fun b hb h => by have h1 := hX5 b hb; obtain ⟨o, ho⟩ := hb; have h2 := HA5.out b o ho; have h3 : b = _ := h; omega)
            have hW6 := hO6.wr1
            have hT5 : OutS (fun b => w.heap.size ≤ b) _ _ := hS5.mono (fun b hb => by have h : b = _ := hb; omega)
            have hT6 : OutS (fun b => w.heap.size ≤ b) _ _ := hS6.mono (fun b hb => by have h : b = _ := hb; omega)
            have hT : ∀ b, w.heap.size ≤ b → w.heap.size ≤ b := fun _ h => h
            go_wp2
            refine bodyPost_ret (v := .tuple #[.agg #[.int .i64 r, .slice A5 (N - k) c5], .slice A6 (k) c6]) (by simp [results, Try.results31, go_sem, f0c, f1c]) rfl ⟨A5, c5, A6, c6, _, _, by rw [hly2.out, hlz2.out], by (repeat' (first | (with_reducible exact hW5) | (with_reducible refine Wr.setOut ?_ _ (fun h => by have := hX5 _ h; first | omega | (simp at this; omega))) | (with_reducible refine Wr.alloc ?_ _) | (with_reducible refine Wr.drewN ?_ _) | (with_reducible refine Wr.drew ?_))), by (repeat' (first | (with_reducible exact hW6) | (with_reducible refine Wr.setOut ?_ _ (fun h => by have := hX6 _ h; first | omega | (simp at this; omega))) | (with_reducible refine Wr.alloc ?_ _) | (with_reducible refine Wr.drewN ?_ _) | (with_reducible refine Wr.drew ?_))), New.mk hX5 (by omega) (by simp; omega), New.mk hX6 (by omega) (by simp), hD, by (repeat' (first | (with_reducible exact Below.refl _ _) | (with_reducible refine bel_alloc ?_ ?_ _) | (with_reducible refine Below.setCell ?_ ?_ _) | (with_reducible refine below_drewN ?_ _) | (with_reducible refine Below.drew ?_) | (with_reducible refine bel_step HB ?_ ?_) | (with_reducible refine bel_step hbU ?_ ?_) | (with_reducible refine bel_outS hT5 hT ?_ ?_) | (with_reducible refine bel_outS hT6 hT ?_ ?_) | (with_reducible exact Nat.le_refl _) | (with_reducible assumption) | omega | (simp only [World.size_alloc, World.size_setCell, World.size_drew]; omega) | (simp; omega) | (simp; done))), by rw [hly2.out]; exact hO5.cap⟩
      · obtain rfl : k = N := by omega
        have hqn : qsum (al.drop k) = 0 := by rw [List.drop_of_length_le (by rw [HL2.out]; omega)]; rfl
        have hkk : addN r al = k := addN_spec HJ.out (by rw [hqn]; exact hr0) (by rw [HL2.out]; omega)
        have hys : ys = [] := by rw [HYS.out, hkk, List.drop_of_length_le (by rw [HL2.out]; omega)]
        have hzs : zs = al := by rw [HZS.out, hkk, List.take_of_length_le (by rw [HL2.out]; omega)]
        have hrz := hW2.rd
        rw [← hzs] at hrz HL2
        have hlz2 := Lib.hid HL2.out
        have hly2 := Lib.hid (show ys.length = 0 by rw [hys]; rfl)
        have hly := Lib.hid (show (tv ys).length = 0 * 3 by rw [tv_length, hly2.out])
        have hlz := Lib.hid (show (tv zs).length = k * 3 by rw [tv_length, hlz2.out])
        have hony := Lib.hid (tv_one ys)
        have honz := Lib.hid (tv_one zs)
        have hry := fun (W : World) (B : Nat) (D : Option Addr) => (show Rd W B D (tv ys) by rw [hys]; exact .inl rfl)
        have HRY := Lib.hid hry
        have hrn : ¬ r < 0 := by omega
        clear hqn hkk hys hzs hry
        have k0 := cell_regrown p0
        have cE := fun d os D c => Calls.regrown_of ((l22Cells_s D 0 c [] (Go.Sort.grow (redrawn wr d) os) (B := 0) (.inl rfl) rfl (by omega)).mono fun _ _ ⟨h1, h2⟩ => ⟨h1, by rw [h2]; exact Below.refl _ _⟩)
        have hq0 : qsum [] = 0 := rfl
        rw [hq0] at cE
        by_cases hck : c2 = k
        · subst hck
          go_wp2
          refine wp_region_quiet_below (by kernel_rfl) (by kernel_rfl) ?_
          repeat (first | go_big_quiet_step (first | (with_reducible exact cE _ _ _ _)) | quiet_step (first | (with_reducible exact cE _ _ _ _)))
          refine wpQuiet_nil ?_
          intro _ hw_q
          obtain ⟨⟨dq, osq⟩, hw_q'⟩ := hw_q
          subst hw_q'
          have hbq := below_regrown wr dq osq
          generalize Go.Sort.grow (redrawn wr dq) osq = wq at *
          have HB := bel_step hbq hbr (Nat.le_refl _)
          have hzq := HB.size
          have p1 := keep hbq p0
          have f0D := (show Cl wq.drew _ _ from (show Cl wq _ _ from f0.below HB))
          have f1D := (show Cl wq.drew _ _ from (show Cl wq _ _ from f1.below HB))
          have hn1 : ¬ w.heap.size + 1 + 1 = w.heap.size := by omega
          have hn2 : ¬ w.heap.size = w.heap.size + 1 + 1 := by omega
          have lf0 : w.heap.size + 1 + 1 < wq.heap.size := lt_of_cell' f0D.1
          clear k0
          have hrzD := (hrz.below hbq).lt.drew
          go_wp2
          go_region_held3 (fun w' => w'.cell? ⟨w.heap.size, 0, none⟩ = some (.int .i64 r)) (first | go_keep | (refine (hS5.cell ?_ (by simp <;> omega)) <;> go_keep) | (refine (hS6.cell ?_ (by simp <;> omega)) <;> go_keep))
            (first | ((refine step_append_new (by rfl) (.tmp 63) (.tmp 66) _ (by rfl) 47 i0 (.agg #[.int .i64 0, .int .i64 0, .int .i64 0]) 3 24 Try.underlying22 hi iz0 iz1 iz2 rfl (by omega) _ (by rfl) (own_blk (by first | (refine blk_new ?_; simp; done) | (refine blk_al (blk_new ?_); simp; done))) _ 0 _ (tv ys) (by rfl) hly.out (B := wq.heap.size) (by first | exact (HRY.out wq.drew wq.heap.size _).alloc _ | exact ((HRY.out wq.drew wq.heap.size _).alloc _).alloc _) hony.out (by unfold maxLen; omega) (by omega) (by first | omega | (simp <;> omega)) ?_; intro A5 c5 w5 hO5 hS5 hA5; (try simp only [World.size_alloc, World.size_drew] at hA5); have HA5 := Lib.hid hA5; clear hA5; have hrz5 := Rd.outS (B := wq.heap.size) (show Rd _ _ A2 (tv zs) by first | exact hrzD.alloc _ | exact (hrzD.alloc _).alloc _) hS5 (fun b hb => by rw [show b = _ from hb]; first | exact Nat.le_refl _ | exact Nat.le_succ _ | (simp <;> omega)); have f0m := Cl.outS (show Cl _ _ _ by first | exact f0D.alloc _ | exact (f0D.alloc _).alloc _) hS5 (by simp <;> omega); have f1m := Cl.outS (show Cl _ _ _ by first | exact f1D.alloc _ | exact (f1D.alloc _).alloc _) hS5 (by simp <;> omega); have hz55 := hS5.size; simp only [World.size_alloc, World.size_drew] at hz55)) | ((refine step_append_new (by rfl) (.tmp 69) (.tmp 72) _ (by rfl) 47 i0 (.agg #[.int .i64 0, .int .i64 0, .int .i64 0]) 3 24 Try.underlying22 hi iz0 iz1 iz2 rfl (by omega) _ (by rfl) (own_blk (by first | exact blk_new rfl | exact blk_out (by first | (refine blk_new ?_; simp; done) | (refine blk_al (blk_new ?_); simp; done)) hS5 (by simp <;> omega))) A2 c2 c2 (tv zs) (by rfl) hlz.out (B := wq.heap.size) (by first | exact hrz5 | exact hrz5.alloc _) honz.out (by unfold maxLen; omega) (by omega) (by first | omega | (simp <;> omega)) ?_; intro A6 c6 w6 hO6 hS6 hA6; (try simp only [World.size_alloc, World.size_drew] at hA6); have HA6 := Lib.hid hA6; clear hA6; have f0n := Cl.outS (show Cl _ _ _ by first | exact f0m | exact f0m.alloc _) hS6 (by simp <;> omega); have f0c := f0n.1; have f0f := f0n.2; have f1n := Cl.outS (show Cl _ _ _ by first | exact f1m | exact f1m.alloc _) hS6 (by simp <;> omega); have f1c := f1n.1; have f1f := f1n.2)) | fail)
          all_goals
            have hz66 := hS6.size
            try simp only [World.size_alloc, World.size_drew] at hz66
            have hX5 : ∀ b, (∃ o, A5 = some ⟨b, o, none⟩) → wq.heap.size ≤ b ∧ b < w5.heap.size := by
              rintro b ⟨o, h⟩
              have h1 := hO5.2 _ h
              have h2 := HA5.out b o h
              simp only at h1
              omega
            have hX6 : ∀ b, (∃ o, A6 = some ⟨b, o, none⟩) → wq.heap.size ≤ b ∧ b < w6.heap.size := by
              rintro b ⟨o, h⟩
              have h1 := hO6.2 _ h
              have h2 := HA6.out b o h
              simp only at h1
              omega
            have hD : ∀ b, (∃ o, A5 = some ⟨b, o, none⟩) → ¬ ∃ o, A6 = some ⟨b, o, none⟩ := by
              rintro b ⟨o, h⟩ ⟨o2, h2⟩
              have h3 := HA5.out b o h
              have h4 := HA6.out b o2 h2
              have h5 := hX5 b ⟨o, h⟩
              omega
            have hW5 : Wr w6 _ A5 (tv ys) := Wr.outS (by first | exact hO5.wr1 | exact hO5.wr1.alloc _) hS6 (fun b hb h => by have h1 := hX5 b hb; obtain ⟨o, ho⟩ := hb; have h2 := HA5.out b o ho; have h3 : b = _ := h; omega)
            have hW6 := hO6.wr1
            have hT5 : OutS (fun b => w.heap.size ≤ b) _ _ := hS5.mono (fun b hb => by have h : b = _ := hb; omega)
            have hT6 : OutS (fun b => w.heap.size ≤ b) _ _ := hS6.mono (fun b hb => by have h : b = _ := hb; omega)
            have hT : ∀ b, w.heap.size ≤ b → w.heap.size ≤ b := fun _ h => h
            go_wp2
            refine bodyPost_ret (v := .tuple #[.agg #[.int .i64 r, .slice A5 (0) c5], .slice A6 (c2) c6]) (by simp [results, Try.results31, go_sem, f0c, f1c]) rfl ⟨A5, c5, A6, c6, _, _, by rw [hly2.out, hlz2.out], by (repeat' (first | (with_reducible exact hW5) | (with_reducible refine Wr.setOut ?_ _ (fun h => by have := hX5 _ h; first | omega | (simp at this; omega))) | (with_reducible refine Wr.alloc ?_ _) | (with_reducible refine Wr.drewN ?_ _) | (with_reducible refine Wr.drew ?_))), by (repeat' (first | (with_reducible exact hW6) | (with_reducible refine Wr.setOut ?_ _ (fun h => by have := hX6 _ h; first | omega | (simp at this; omega))) | (with_reducible refine Wr.alloc ?_ _) | (with_reducible refine Wr.drewN ?_ _) | (with_reducible refine Wr.drew ?_))), New.mk hX5 (by omega) (by simp; omega), New.mk hX6 (by omega) (by simp), hD, by (repeat' (first | (with_reducible exact Below.refl _ _) | (with_reducible refine bel_alloc ?_ ?_ _) | (with_reducible refine Below.setCell ?_ ?_ _) | (with_reducible refine below_drewN ?_ _) | (with_reducible refine Below.drew ?_) | (with_reducible refine bel_step HB ?_ ?_) | (with_reducible refine bel_step hbU ?_ ?_) | (with_reducible refine bel_outS hT5 hT ?_ ?_) | (with_reducible refine bel_outS hT6 hT ?_ ?_) | (with_reducible exact Nat.le_refl _) | (with_reducible assumption) | omega | (simp only [World.size_alloc, World.size_setCell, World.size_drew]; omega) | (simp; omega) | (simp; done))), by rw [hly2.out]; exact hO5.cap⟩
        · go_wp2
          refine wp_region_quiet_below (by kernel_rfl) (by kernel_rfl) ?_
          repeat (first | go_big_quiet_step (first | (with_reducible exact cE _ _ _ _)) | quiet_step (first | (with_reducible exact cE _ _ _ _)))
          refine wpQuiet_nil ?_
          intro _ hw_q
          obtain ⟨⟨dq, osq⟩, hw_q'⟩ := hw_q
          subst hw_q'
          have hbq := below_regrown wr dq osq
          generalize Go.Sort.grow (redrawn wr dq) osq = wq at *
          have HB := bel_step hbq hbr (Nat.le_refl _)
          have hzq := HB.size
          have p1 := keep hbq p0
          have f0D := (show Cl wq.drew _ _ from (show Cl wq _ _ from f0.below HB))
          have f1D := (show Cl wq.drew _ _ from (show Cl wq _ _ from f1.below HB))
          have hn1 : ¬ w.heap.size + 1 + 1 = w.heap.size := by omega
          have hn2 : ¬ w.heap.size = w.heap.size + 1 + 1 := by omega
          have lf0 : w.heap.size + 1 + 1 < wq.heap.size := lt_of_cell' f0D.1
          clear k0
          have hrzD := (hrz.below hbq).lt.drew
          go_wp2
          go_region_held3 (fun w' => w'.cell? ⟨w.heap.size, 0, none⟩ = some (.int .i64 r)) (first | go_keep | (refine (hS5.cell ?_ (by simp <;> omega)) <;> go_keep) | (refine (hS6.cell ?_ (by simp <;> omega)) <;> go_keep))
            (first | ((refine step_append_new (by rfl) (.tmp 63) (.tmp 66) _ (by rfl) 47 i0 (.agg #[.int .i64 0, .int .i64 0, .int .i64 0]) 3 24 Try.underlying22 hi iz0 iz1 iz2 rfl (by omega) _ (by rfl) (own_blk (by first | (refine blk_new ?_; simp; done) | (refine blk_al (blk_new ?_); simp; done))) _ 0 _ (tv ys) (by rfl) hly.out (B := wq.heap.size) (by first | exact (HRY.out wq.drew wq.heap.size _).alloc _ | exact ((HRY.out wq.drew wq.heap.size _).alloc _).alloc _) hony.out (by unfold maxLen; omega) (by omega) (by first | omega | (simp <;> omega)) ?_; intro A5 c5 w5 hO5 hS5 hA5; (try simp only [World.size_alloc, World.size_drew] at hA5); have HA5 := Lib.hid hA5; clear hA5; have hrz5 := Rd.outS (B := wq.heap.size) (show Rd _ _ A2 (tv zs) by first | exact hrzD.alloc _ | exact (hrzD.alloc _).alloc _) hS5 (fun b hb => by rw [show b = _ from hb]; first | exact Nat.le_refl _ | exact Nat.le_succ _ | (simp <;> omega)); have f0m := Cl.outS (show Cl _ _ _ by first | exact f0D.alloc _ | exact (f0D.alloc _).alloc _) hS5 (by simp <;> omega); have f1m := Cl.outS (show Cl _ _ _ by first | exact f1D.alloc _ | exact (f1D.alloc _).alloc _) hS5 (by simp <;> omega); have hz55 := hS5.size; simp only [World.size_alloc, World.size_drew] at hz55)) | ((refine step_append_new (by rfl) (.tmp 69) (.tmp 72) _ (by rfl) 47 i0 (.agg #[.int .i64 0, .int .i64 0, .int .i64 0]) 3 24 Try.underlying22 hi iz0 iz1 iz2 rfl (by omega) _ (by rfl) (own_blk (by first | exact blk_new rfl | exact blk_out (by first | (refine blk_new ?_; simp; done) | (refine blk_al (blk_new ?_); simp; done)) hS5 (by simp <;> omega))) A2 k c2 (tv zs) (by rfl) hlz.out (B := wq.heap.size) (by first | exact hrz5 | exact hrz5.alloc _) honz.out (by unfold maxLen; omega) (by omega) (by first | omega | (simp <;> omega)) ?_; intro A6 c6 w6 hO6 hS6 hA6; (try simp only [World.size_alloc, World.size_drew] at hA6); have HA6 := Lib.hid hA6; clear hA6; have f0n := Cl.outS (show Cl _ _ _ by first | exact f0m | exact f0m.alloc _) hS6 (by simp <;> omega); have f0c := f0n.1; have f0f := f0n.2; have f1n := Cl.outS (show Cl _ _ _ by first | exact f1m | exact f1m.alloc _) hS6 (by simp <;> omega); have f1c := f1n.1; have f1f := f1n.2)) | fail)
          all_goals
            have hz66 := hS6.size
            try simp only [World.size_alloc, World.size_drew] at hz66
            have hX5 : ∀ b, (∃ o, A5 = some ⟨b, o, none⟩) → wq.heap.size ≤ b ∧ b < w5.heap.size := by
              rintro b ⟨o, h⟩
              have h1 := hO5.2 _ h
              have h2 := HA5.out b o h
              simp only at h1
              omega
            have hX6 : ∀ b, (∃ o, A6 = some ⟨b, o, none⟩) → wq.heap.size ≤ b ∧ b < w6.heap.size := by
              rintro b ⟨o, h⟩
              have h1 := hO6.2 _ h
              have h2 := HA6.out b o h
              simp only at h1
              omega
            have hD : ∀ b, (∃ o, A5 = some ⟨b, o, none⟩) → ¬ ∃ o, A6 = some ⟨b, o, none⟩ := by
              rintro b ⟨o, h⟩ ⟨o2, h2⟩
              have h3 := HA5.out b o h
              have h4 := HA6.out b o2 h2
              have h5 := hX5 b ⟨o, h⟩
              omega
            have hW5 : Wr w6 _ A5 (tv ys) := Wr.outS (by first | exact hO5.wr1 | exact hO5.wr1.alloc _) hS6 (fun b hb h => by have h1 := hX5 b hb; obtain ⟨o, ho⟩ := hb; have h2 := HA5.out b o ho; have h3 : b = _ := h; omega)
            have hW6 := hO6.wr1
            have hT5 : OutS (fun b => w.heap.size ≤ b) _ _ := hS5.mono (fun b hb => by have h : b = _ := hb; omega)
            have hT6 : OutS (fun b => w.heap.size ≤ b) _ _ := hS6.mono (fun b hb => by have h : b = _ := hb; omega)
            have hT : ∀ b, w.heap.size ≤ b → w.heap.size ≤ b := fun _ h => h
            go_wp2
            refine bodyPost_ret (v := .tuple #[.agg #[.int .i64 r, .slice A5 (0) c5], .slice A6 (k) c6]) (by simp [results, Try.results31, go_sem, f0c, f1c]) rfl ⟨A5, c5, A6, c6, _, _, by rw [hly2.out, hlz2.out], by (repeat' (first | (with_reducible exact hW5) | (with_reducible refine Wr.setOut ?_ _ (fun h => by have := hX5 _ h; first | omega | (simp at this; omega))) | (with_reducible refine Wr.alloc ?_ _) | (with_reducible refine Wr.drewN ?_ _) | (with_reducible refine Wr.drew ?_))), by (repeat' (first | (with_reducible exact hW6) | (with_reducible refine Wr.setOut ?_ _ (fun h => by have := hX6 _ h; first | omega | (simp at this; omega))) | (with_reducible refine Wr.alloc ?_ _) | (with_reducible refine Wr.drewN ?_ _) | (with_reducible refine Wr.drew ?_))), New.mk hX5 (by omega) (by simp; omega), New.mk hX6 (by omega) (by simp), hD, by (repeat' (first | (with_reducible exact Below.refl _ _) | (with_reducible refine bel_alloc ?_ ?_ _) | (with_reducible refine Below.setCell ?_ ?_ _) | (with_reducible refine below_drewN ?_ _) | (with_reducible refine Below.drew ?_) | (with_reducible refine bel_step HB ?_ ?_) | (with_reducible refine bel_step hbU ?_ ?_) | (with_reducible refine bel_outS hT5 hT ?_ ?_) | (with_reducible refine bel_outS hT6 hT ?_ ?_) | (with_reducible exact Nat.le_refl _) | (with_reducible assumption) | omega | (simp only [World.size_alloc, World.size_setCell, World.size_drew]; omega) | (simp; omega) | (simp; done))), by rw [hly2.out]; exact hO5.cap⟩
  · obtain ⟨m, hm⟩ : ∃ m, m = xs.length - 1 := ⟨_, rfl⟩
    have hm1 : m < xs.length := by omega
    obtain ⟨b1, off1, rfl, -, -, -, hd2⟩ := hrW.trip (k := m) hm1
    obtain ⟨t, ht⟩ : ∃ t, t = xs[m].2.2 := ⟨_, rfl⟩
    rw [← ht] at hd2
    have HL := Lib.hid (show lastS xs = t by rw [lastS_eq (m := m) (by omega), ht])
    have k5 := cell_regrown hd2
    have hnd : decide (0 < xs.length) = true := by simp; omega
    have hn0 : 0 < xs.length := by omega
    have hs1 : IntKind.i64.wrap ((xs.length : Int) - 1) = (m : Int) := by rw [IntWalk.i64_in _ (by omega)]; omega
    clear ht hm
    have htz : ¬ z < t := by have := HV.out; rw [HL.out] at this; omega
    have htd : decide (z < t) = false := by simpa using htz
    refine wp_region_quiet_below (by kernel_rfl) (by kernel_rfl) ?_
    repeat (first | go_big_quiet_step (first | (with_reducible exact cE1 _ _) | (with_reducible exact cE2 _ _) | (with_reducible exact cE3 _ _)) | quiet_step (first | (with_reducible exact cE1 _ _) | (with_reducible exact cE2 _ _) | (with_reducible exact cE3 _ _)))
    refine wpQuiet_nil ?_
    intro _ hw_q
    obtain ⟨⟨dq, osq⟩, hw_q'⟩ := hw_q
    subst hw_q'
    have hbq := below_regrown W dq osq
    generalize Go.Sort.grow (redrawn W dq) osq = wq at *
    clear k5 hd2 hs1 hnd
    replace q0 := keep hbq q0
    replace x0 := keep hbq x0
    replace x1 := keep hbq x1
    replace x2 := keep hbq x2
    replace o0 := keep hbq o0
    replace o1 := keep hbq o1
    replace f0 := f0.below hbq
    replace f1 := f1.below hbq
    replace hO := hO.below hbq
    replace hbW := bel_step hbq hbW (Nat.le_refl _)
    have hqs := hbq.size
    clear k0 k1 k2 k3 k4 q1 hr hrW cE1 cE2 cE3 hW hN hbq
    go_wp2_with (at_builtin; refine wpList_append_ow rfl (.tmp 48) (.tmp 50) _ rfl 47 i0 (.agg #[.int .i64 0, .int .i64 0, .int .i64 0]) 3 24 Try.underlying22 hi iz0 iz1 iz2 rfl (by omega) (w.heap.size + 3) A' xs.length c' (tv xs) rfl (hO.alloc _).1 (some ⟨wq.heap.size, 0, none⟩) 1 1 (tv [(x, y, z)]) rfl rfl (Rd.lit rfl) (tv_one _) (by unfold maxLen; omega) (by omega) (by simp; omega) ?_; intro A2 c2 u4 hO2 hS4 hA2)
    have hcap2 := (Ow.mk' hO2).cap
    have hW2 := (Ow.mk' hO2).wr1
    have hz4 := hS4.size
    simp only [World.size_alloc] at hz4
    have hl4 : ∀ b, (∃ o, A' = some ⟨b, o, none⟩) → w.heap.size ≤ b := by
      rintro b hb
      rcases Nat.lt_or_ge b w.heap.size with h | h
      · exact absurd hb (hO.apart (.inl (by omega)))
      · exact h
    replace q0 := hS4.cell (cell_al q0 (.cells #[.int .i64 x, .int .i64 y, .int .i64 z] 47)) (hO.apart (.inl (by show w.heap.size < _; omega)))
    replace f0 := Cl.outS (f0.alloc (.cells #[.int .i64 x, .int .i64 y, .int .i64 z] 47)) hS4 (hO.apart (.inl (by show w.heap.size + 1 + 1 < _; omega)))
    replace f1 := Cl.outS (f1.alloc (.cells #[.int .i64 x, .int .i64 y, .int .i64 z] 47)) hS4 (hO.apart (.inl (by show w.heap.size + 1 + 1 < _; omega)))
    have hbU : Below w.heap.size w u4 := by (repeat' (first | (with_reducible exact Below.refl _ _) | (with_reducible refine bel_alloc ?_ ?_ _) | (with_reducible refine Below.setCell ?_ ?_ _) | (with_reducible refine below_drewN ?_ _) | (with_reducible refine Below.drew ?_) | (with_reducible refine bel_step hbW ?_ ?_) | (with_reducible refine bel_outS hS4 hl4 ?_ ?_) | (with_reducible exact Nat.le_refl _) | (with_reducible assumption) | omega | (simp only [World.size_alloc, World.size_setCell, World.size_drew]; omega) | (simp; omega) | (simp; done)))
    clear x0 x1 x2 o0 o1 hO2 hS4 hA2 hO hl4 hbW
    obtain ⟨al, hal⟩ : ∃ al, al = xs ++ [(x, y, z)] := ⟨_, rfl⟩
    rw [← hal] at HYS HZS
    rw [tv_snoc, ← hal] at hW2
    have hall : al.length = xs.length + 1 := by rw [hal]; simp
    clear hal
    have HL2 := Lib.hid hall
    clear hall
    have hN1 : xs.length + 1 ≤ 1048577 := by omega
    generalize xs.length + 1 = N at *
    go_loopw [9] (fun v wr => ∃ k : Nat, k ≤ N ∧ v = .int .i64 k ∧ (∀ j, j < k → r < qsum (al.drop j)) ∧ Below u4.heap.size u4 wr) (fun v _ => N - (intOf v).toNat)
    case atStart => exact ⟨0, Nat.zero_le _, rfl, fun j hj => absurd hj (by omega), Below.refl _ _⟩
    case round =>
      obtain ⟨k, hk, rfl, hj, hbr⟩ := hrel
      have HJ := Lib.hid hj
      clear hj
      have p0 := keep hbr q0
      replace hW2 := hW2.below hbr
      have j0 : (0 : Int) ≤ (k : Int) := by omega
      have j1 : (k : Int) ≤ (N : Int) := by omega
      have j2 : (k : Int) ≤ (c2 : Int) := by omega
      by_cases hkn : k < N
      · have hck : ¬ c2 = k := by omega
        obtain ⟨g, off, rfl⟩ : ∃ g off, A2 = some ⟨g, off, none⟩ := by
          have := HL2.out
          rcases hW2 with h | ⟨b, off, h, _⟩
          · have := tv_length al; rw [h] at this; simp at this; omega
          · exact ⟨b, off, h⟩
        have hrd := hW2.rd
        rw [tv_take al k] at hrd
        replace hrd := hrd.post
        have htk : (tv (al.take k)).length = k * 3 := by rw [tv_length, List.length_take, HL2.out, Nat.min_eq_left (by omega)]
        rw [htk] at hrd
        have hdl := Lib.hid (show (al.drop k).length = N - k by rw [List.length_drop, HL2.out])
        clear htk
        have cQ := fun W h => l22Cells_s (some ⟨g, off + k * 3, none⟩) (N - k) (c2 - k) (al.drop k) W (B := wr.heap.size) h hdl.out (by omega)
        have HQ := Lib.hid cQ
        clear cQ
        obtain ⟨t, ht⟩ : ∃ t, t = qsum (al.drop k) := ⟨_, rfl⟩
        rw [← ht] at HQ
        have HT := Lib.hid ht
        clear ht
        have k0 := cell_regrown p0
        have cE := fun d os => Calls.regrown_of ((HQ.out (Go.Sort.grow (redrawn wr d) os) (hrd.below (below_regrown wr d os))).mono fun _ _ ⟨h1, h2⟩ => ⟨h1, by rw [h2]; exact Below.refl _ _⟩)
        by_cases hgt : r < t
        · go_wp2
          refine wp_region_quiet_below (by kernel_rfl) (by kernel_rfl) ?_
          repeat (first | go_big_quiet_step (first | (with_reducible exact cE _ _)) | quiet_step (first | (with_reducible exact cE _ _)))
          refine wpQuiet_nil ?_
          intro _ hw_q
          obtain ⟨⟨dq, osq⟩, hw_q'⟩ := hw_q
          subst hw_q'
          have hbq := below_regrown wr dq osq
          generalize Go.Sort.grow (redrawn wr dq) osq = wq at *
          go_wp2
          go_roundw
          case rel =>
            refine ⟨k + 1, by omega, by go_num, fun j hj => ?_, ?_⟩
            · by_cases e : j = k
              · subst e; rw [← HT.out]; exact hgt
              · exact HJ.out j (by omega)
            · (repeat' (first | (with_reducible exact Below.refl _ _) | (with_reducible refine bel_alloc ?_ ?_ _) | (with_reducible refine Below.setCell ?_ ?_ _) | (with_reducible refine below_drewN ?_ _) | (with_reducible refine Below.drew ?_) | (with_reducible refine bel_step hbq ?_ ?_) | (with_reducible refine bel_step hbr ?_ ?_) | (with_reducible exact Nat.le_refl _) | (with_reducible assumption) | omega | (simp only [World.size_alloc, World.size_setCell, World.size_drew]; omega) | (simp; omega) | (simp; done)))
          case measure => simp [intOf]; omega
        · have hkk : addN r al = k := addN_spec HJ.out (by rw [← HT.out]; omega) (by rw [HL2.out]; omega)
          have hys : ys = al.drop k := by rw [HYS.out, hkk]
          have hzs : zs = al.take k := by rw [HZS.out, hkk]
          have hrz := hW2.rd
          rw [tv_take al k] at hrz
          replace hrz := hrz.pre
          rw [← hzs] at hrz
          rw [← hys] at hrd
          have hly2 := Lib.hid (show ys.length = N - k by rw [hys, List.length_drop, HL2.out])
          have hlz2 := Lib.hid (show zs.length = k by rw [hzs, List.length_take, HL2.out]; omega)
          have hly := Lib.hid (show (tv ys).length = (N - k) * 3 by rw [tv_length, hly2.out])
          have hlz := Lib.hid (show (tv zs).length = k * 3 by rw [tv_length, hlz2.out])
          have hony := Lib.hid (tv_one ys)
          have honz := Lib.hid (tv_one zs)
          clear hkk hys hzs
          go_wp2
          refine wp_region_quiet_below (by kernel_rfl) (by kernel_rfl) ?_
          repeat (first | go_big_quiet_step (first | (with_reducible exact cE _ _)) | quiet_step (first | (with_reducible exact cE _ _)))
          refine wpQuiet_nil ?_
          intro _ hw_q
          obtain ⟨⟨dq, osq⟩, hw_q'⟩ := hw_q
          subst hw_q'
          have hbq := below_regrown wr dq osq
          generalize Go.Sort.grow (redrawn wr dq) osq = wq at *
          have HB := bel_step hbq hbr (Nat.le_refl _)
          have hzq := HB.size
          have p1 := keep hbq p0
          have f0D := (show Cl wq.drew _ _ from (show Cl wq _ _ from f0.below HB))
          have f1D := (show Cl wq.drew _ _ from (show Cl wq _ _ from f1.below HB))
          have hn1 : ¬ w.heap.size + 1 + 1 = w.heap.size := by omega
          have hn2 : ¬ w.heap.size = w.heap.size + 1 + 1 := by omega
          have lf0 : w.heap.size + 1 + 1 < wq.heap.size := lt_of_cell' f0D.1
          clear k0
          have hrdD := (hrd.below hbq).lt.drew
          have hrzD := (hrz.below hbq).lt.drew
          go_wp2
          go_region_held3 (fun w' => w'.cell? ⟨w.heap.size, 0, none⟩ = some (.int .i64 r)) (first | go_keep | (refine (hS5.cell ?_ (by simp <;> omega)) <;> go_keep) | (refine (hS6.cell ?_ (by simp <;> omega)) <;> go_keep))
            (first | ((refine step_append_new (by rfl) (.tmp 63) (.tmp 66) _ (by rfl) 47 i0 (.agg #[.int .i64 0, .int .i64 0, .int .i64 0]) 3 24 Try.underlying22 hi iz0 iz1 iz2 rfl (by omega) _ (by rfl) (own_blk (by first | (refine blk_new ?_; simp; done) | (refine blk_al (blk_new ?_); simp; done))) (some ⟨g, off + k * 3, none⟩) (N - k) (c2 - k) (tv ys) (by rfl) hly.out (B := wq.heap.size) (by first | exact hrdD.alloc _ | exact (hrdD.alloc _).alloc _) hony.out (by unfold maxLen; omega) (by omega) (by first | omega | (simp <;> omega)) ?_; intro A5 c5 w5 hO5 hS5 hA5; (try simp only [World.size_alloc, World.size_drew] at hA5); have HA5 := Lib.hid hA5; clear hA5; have hrz5 := Rd.outS (B := wq.heap.size) (show Rd _ _ (some ⟨g, off, none⟩) (tv zs) by first | exact hrzD.alloc _ | exact (hrzD.alloc _).alloc _) hS5 (fun b hb => by rw [show b = _ from hb]; first | exact Nat.le_refl _ | exact Nat.le_succ _ | (simp <;> omega)); have f0m := Cl.outS (show Cl _ _ _ by first | exact f0D.alloc _ | exact (f0D.alloc _).alloc _) hS5 (by simp <;> omega); have f1m := Cl.outS (show Cl _ _ _ by first | exact f1D.alloc _ | exact (f1D.alloc _).alloc _) hS5 (by simp <;> omega); have hz55 := hS5.size; simp only [World.size_alloc, World.size_drew] at hz55)) | ((refine step_append_new (by rfl) (.tmp 69) (.tmp 72) _ (by rfl) 47 i0 (.agg #[.int .i64 0, .int .i64 0, .int .i64 0]) 3 24 Try.underlying22 hi iz0 iz1 iz2 rfl (by omega) _ (by rfl) (own_blk (by first | exact blk_new rfl | exact blk_out (by first | (refine blk_new ?_; simp; done) | (refine blk_al (blk_new ?_); simp; done)) hS5 (by simp <;> omega))) (some ⟨g, off, none⟩) k c2 (tv zs) (by rfl) hlz.out (B := wq.heap.size) (by first | exact hrz5 | exact hrz5.alloc _) honz.out (by unfold maxLen; omega) (by omega) (by first | omega | (simp <;> omega)) ?_; intro A6 c6 w6 hO6 hS6 hA6; (try simp only [World.size_alloc, World.size_drew] at hA6); have HA6 := Lib.hid hA6; clear hA6; have f0n := Cl.outS (show Cl _ _ _ by first | exact f0m | exact f0m.alloc _) hS6 (by simp <;> omega); have f0c := f0n.1; have f0f := f0n.2; have f1n := Cl.outS (show Cl _ _ _ by first | exact f1m | exact f1m.alloc _) hS6 (by simp <;> omega); have f1c := f1n.1; have f1f := f1n.2)) | fail)
          all_goals
            have hz66 := hS6.size
            try simp only [World.size_alloc, World.size_drew] at hz66
            have hX5 : ∀ b, (∃ o, A5 = some ⟨b, o, none⟩) → wq.heap.size ≤ b ∧ b < w5.heap.size := by
              rintro b ⟨o, h⟩
              have h1 := hO5.2 _ h
              have h2 := HA5.out b o h
              simp only at h1
              omega
            have hX6 : ∀ b, (∃ o, A6 = some ⟨b, o, none⟩) → wq.heap.size ≤ b ∧ b < w6.heap.size := by
              rintro b ⟨o, h⟩
              have h1 := hO6.2 _ h
              have h2 := HA6.out b o h
              simp only at h1
              omega
            have hD : ∀ b, (∃ o, A5 = some ⟨b, o, none⟩) → ¬ ∃ o, A6 = some ⟨b, o, none⟩ := by
              rintro b ⟨o, h⟩ ⟨o2, h2⟩
              have h3 := HA5.out b o h
              have h4 := HA6.out b o2 h2
              have h5 := hX5 b ⟨o, h⟩
              omega
            have hW5 : Wr w6 _ A5 (tv ys) := Wr.outS (by first | exact hO5.wr1 | exact hO5.wr1.alloc _) hS6 (fun b hb h => by have h1 := hX5 b hb; obtain ⟨o, ho⟩ := hb; have h2 := HA5.out b o ho; have h3 : b = _ := h; omega)
            have hW6 := hO6.wr1
            have hT5 : OutS (fun b => w.heap.size ≤ b) _ _ := hS5.mono (fun b hb => by have h : b = _ := hb; omega)
            have hT6 : OutS (fun b => w.heap.size ≤ b) _ _ := hS6.mono (fun b hb => by have h : b = _ := hb; omega)
            have hT : ∀ b, w.heap.size ≤ b → w.heap.size ≤ b := fun _ h => h
            go_wp2
            refine bodyPost_ret (v := .tuple #[.agg #[.int .i64 r, .slice A5 (N - k) c5], .slice A6 (k) c6]) (by simp [results, Try.results31, go_sem, f0c, f1c]) rfl ⟨A5, c5, A6, c6, _, _, by rw [hly2.out, hlz2.out], by (repeat' (first | (with_reducible exact hW5) | (with_reducible refine Wr.setOut ?_ _ (fun h => by have := hX5 _ h; first | omega | (simp at this; omega))) | (with_reducible refine Wr.alloc ?_ _) | (with_reducible refine Wr.drewN ?_ _) | (with_reducible refine Wr.drew ?_))), by (repeat' (first | (with_reducible exact hW6) | (with_reducible refine Wr.setOut ?_ _ (fun h => by have := hX6 _ h; first | omega | (simp at this; omega))) | (with_reducible refine Wr.alloc ?_ _) | (with_reducible refine Wr.drewN ?_ _) | (with_reducible refine Wr.drew ?_))), New.mk hX5 (by omega) (by simp; omega), New.mk hX6 (by omega) (by simp), hD, by (repeat' (first | (with_reducible exact Below.refl _ _) | (with_reducible refine bel_alloc ?_ ?_ _) | (with_reducible refine Below.setCell ?_ ?_ _) | (with_reducible refine below_drewN ?_ _) | (with_reducible refine Below.drew ?_) | (with_reducible refine bel_step HB ?_ ?_) | (with_reducible refine bel_step hbU ?_ ?_) | (with_reducible refine bel_outS hT5 hT ?_ ?_) | (with_reducible refine bel_outS hT6 hT ?_ ?_) | (with_reducible exact Nat.le_refl _) | (with_reducible assumption) | omega | (simp only [World.size_alloc, World.size_setCell, World.size_drew]; omega) | (simp; omega) | (simp; done))), by rw [hly2.out]; exact hO5.cap⟩
      · obtain rfl : k = N := by omega
        have hqn : qsum (al.drop k) = 0 := by rw [List.drop_of_length_le (by rw [HL2.out]; omega)]; rfl
        have hkk : addN r al = k := addN_spec HJ.out (by rw [hqn]; exact hr0) (by rw [HL2.out]; omega)
        have hys : ys = [] := by rw [HYS.out, hkk, List.drop_of_length_le (by rw [HL2.out]; omega)]
        have hzs : zs = al := by rw [HZS.out, hkk, List.take_of_length_le (by rw [HL2.out]; omega)]
        have hrz := hW2.rd
        rw [← hzs] at hrz HL2
        have hlz2 := Lib.hid HL2.out
        have hly2 := Lib.hid (show ys.length = 0 by rw [hys]; rfl)
        have hly := Lib.hid (show (tv ys).length = 0 * 3 by rw [tv_length, hly2.out])
        have hlz := Lib.hid (show (tv zs).length = k * 3 by rw [tv_length, hlz2.out])
        have hony := Lib.hid (tv_one ys)
        have honz := Lib.hid (tv_one zs)
        have hry := fun (W : World) (B : Nat) (D : Option Addr) => (show Rd W B D (tv ys) by rw [hys]; exact .inl rfl)
        have HRY := Lib.hid hry
        have hrn : ¬ r < 0 := by omega
        clear hqn hkk hys hzs hry
        have k0 := cell_regrown p0
        have cE := fun d os D c => Calls.regrown_of ((l22Cells_s D 0 c [] (Go.Sort.grow (redrawn wr d) os) (B := 0) (.inl rfl) rfl (by omega)).mono fun _ _ ⟨h1, h2⟩ => ⟨h1, by rw [h2]; exact Below.refl _ _⟩)
        have hq0 : qsum [] = 0 := rfl
        rw [hq0] at cE
        by_cases hck : c2 = k
        · subst hck
          go_wp2
          refine wp_region_quiet_below (by kernel_rfl) (by kernel_rfl) ?_
          repeat (first | go_big_quiet_step (first | (with_reducible exact cE _ _ _ _)) | quiet_step (first | (with_reducible exact cE _ _ _ _)))
          refine wpQuiet_nil ?_
          intro _ hw_q
          obtain ⟨⟨dq, osq⟩, hw_q'⟩ := hw_q
          subst hw_q'
          have hbq := below_regrown wr dq osq
          generalize Go.Sort.grow (redrawn wr dq) osq = wq at *
          have HB := bel_step hbq hbr (Nat.le_refl _)
          have hzq := HB.size
          have p1 := keep hbq p0
          have f0D := (show Cl wq.drew _ _ from (show Cl wq _ _ from f0.below HB))
          have f1D := (show Cl wq.drew _ _ from (show Cl wq _ _ from f1.below HB))
          have hn1 : ¬ w.heap.size + 1 + 1 = w.heap.size := by omega
          have hn2 : ¬ w.heap.size = w.heap.size + 1 + 1 := by omega
          have lf0 : w.heap.size + 1 + 1 < wq.heap.size := lt_of_cell' f0D.1
          clear k0
          have hrzD := (hrz.below hbq).lt.drew
          go_wp2
          go_region_held3 (fun w' => w'.cell? ⟨w.heap.size, 0, none⟩ = some (.int .i64 r)) (first | go_keep | (refine (hS5.cell ?_ (by simp <;> omega)) <;> go_keep) | (refine (hS6.cell ?_ (by simp <;> omega)) <;> go_keep))
            (first | ((refine step_append_new (by rfl) (.tmp 63) (.tmp 66) _ (by rfl) 47 i0 (.agg #[.int .i64 0, .int .i64 0, .int .i64 0]) 3 24 Try.underlying22 hi iz0 iz1 iz2 rfl (by omega) _ (by rfl) (own_blk (by first | (refine blk_new ?_; simp; done) | (refine blk_al (blk_new ?_); simp; done))) _ 0 _ (tv ys) (by rfl) hly.out (B := wq.heap.size) (by first | exact (HRY.out wq.drew wq.heap.size _).alloc _ | exact ((HRY.out wq.drew wq.heap.size _).alloc _).alloc _) hony.out (by unfold maxLen; omega) (by omega) (by first | omega | (simp <;> omega)) ?_; intro A5 c5 w5 hO5 hS5 hA5; (try simp only [World.size_alloc, World.size_drew] at hA5); have HA5 := Lib.hid hA5; clear hA5; have hrz5 := Rd.outS (B := wq.heap.size) (show Rd _ _ A2 (tv zs) by first | exact hrzD.alloc _ | exact (hrzD.alloc _).alloc _) hS5 (fun b hb => by rw [show b = _ from hb]; first | exact Nat.le_refl _ | exact Nat.le_succ _ | (simp <;> omega)); have f0m := Cl.outS (show Cl _ _ _ by first | exact f0D.alloc _ | exact (f0D.alloc _).alloc _) hS5 (by simp <;> omega); have f1m := Cl.outS (show Cl _ _ _ by first | exact f1D.alloc _ | exact (f1D.alloc _).alloc _) hS5 (by simp <;> omega); have hz55 := hS5.size; simp only [World.size_alloc, World.size_drew] at hz55)) | ((refine step_append_new (by rfl) (.tmp 69) (.tmp 72) _ (by rfl) 47 i0 (.agg #[.int .i64 0, .int .i64 0, .int .i64 0]) 3 24 Try.underlying22 hi iz0 iz1 iz2 rfl (by omega) _ (by rfl) (own_blk (by first | exact blk_new rfl | exact blk_out (by first | (refine blk_new ?_; simp; done) | (refine blk_al (blk_new ?_); simp; done)) hS5 (by simp <;> omega))) A2 c2 c2 (tv zs) (by rfl) hlz.out (B := wq.heap.size) (by first | exact hrz5 | exact hrz5.alloc _) honz.out (by unfold maxLen; omega) (by omega) (by first | omega | (simp <;> omega)) ?_; intro A6 c6 w6 hO6 hS6 hA6; (try simp only [World.size_alloc, World.size_drew] at hA6); have HA6 := Lib.hid hA6; clear hA6; have f0n := Cl.outS (show Cl _ _ _ by first | exact f0m | exact f0m.alloc _) hS6 (by simp <;> omega); have f0c := f0n.1; have f0f := f0n.2; have f1n := Cl.outS (show Cl _ _ _ by first | exact f1m | exact f1m.alloc _) hS6 (by simp <;> omega); have f1c := f1n.1; have f1f := f1n.2)) | fail)
          all_goals
            have hz66 := hS6.size
            try simp only [World.size_alloc, World.size_drew] at hz66
            have hX5 : ∀ b, (∃ o, A5 = some ⟨b, o, none⟩) → wq.heap.size ≤ b ∧ b < w5.heap.size := by
              rintro b ⟨o, h⟩
              have h1 := hO5.2 _ h
              have h2 := HA5.out b o h
              simp only at h1
              omega
            have hX6 : ∀ b, (∃ o, A6 = some ⟨b, o, none⟩) → wq.heap.size ≤ b ∧ b < w6.heap.size := by
              rintro b ⟨o, h⟩
              have h1 := hO6.2 _ h
              have h2 := HA6.out b o h
              simp only at h1
              omega
            have hD : ∀ b, (∃ o, A5 = some ⟨b, o, none⟩) → ¬ ∃ o, A6 = some ⟨b, o, none⟩ := by
              rintro b ⟨o, h⟩ ⟨o2, h2⟩
              have h3 := HA5.out b o h
              have h4 := HA6.out b o2 h2
              have h5 := hX5 b ⟨o, h⟩
              omega
            have hW5 : Wr w6 _ A5 (tv ys) := Wr.outS (by first | exact hO5.wr1 | exact hO5.wr1.alloc _) hS6 (fun b hb h => by have h1 := hX5 b hb; obtain ⟨o, ho⟩ := hb; have h2 := HA5.out b o ho; have h3 : b = _ := h; omega)
            have hW6 := hO6.wr1
            have hT5 : OutS (fun b => w.heap.size ≤ b) _ _ := hS5.mono (fun b hb => by have h : b = _ := hb; omega)
            have hT6 : OutS (fun b => w.heap.size ≤ b) _ _ := hS6.mono (fun b hb => by have h : b = _ := hb; omega)
            have hT : ∀ b, w.heap.size ≤ b → w.heap.size ≤ b := fun _ h => h
            go_wp2
            refine bodyPost_ret (v := .tuple #[.agg #[.int .i64 r, .slice A5 (0) c5], .slice A6 (c2) c6]) (by simp [results, Try.results31, go_sem, f0c, f1c]) rfl ⟨A5, c5, A6, c6, _, _, by rw [hly2.out, hlz2.out], by (repeat' (first | (with_reducible exact hW5) | (with_reducible refine Wr.setOut ?_ _ (fun h => by have := hX5 _ h; first | omega | (simp at this; omega))) | (with_reducible refine Wr.alloc ?_ _) | (with_reducible refine Wr.drewN ?_ _) | (with_reducible refine Wr.drew ?_))), by (repeat' (first | (with_reducible exact hW6) | (with_reducible refine Wr.setOut ?_ _ (fun h => by have := hX6 _ h; first | omega | (simp at this; omega))) | (with_reducible refine Wr.alloc ?_ _) | (with_reducible refine Wr.drewN ?_ _) | (with_reducible refine Wr.drew ?_))), New.mk hX5 (by omega) (by simp; omega), New.mk hX6 (by omega) (by simp), hD, by (repeat' (first | (with_reducible exact Below.refl _ _) | (with_reducible refine bel_alloc ?_ ?_ _) | (with_reducible refine Below.setCell ?_ ?_ _) | (with_reducible refine below_drewN ?_ _) | (with_reducible refine Below.drew ?_) | (with_reducible refine bel_step HB ?_ ?_) | (with_reducible refine bel_step hbU ?_ ?_) | (with_reducible refine bel_outS hT5 hT ?_ ?_) | (with_reducible refine bel_outS hT6 hT ?_ ?_) | (with_reducible exact Nat.le_refl _) | (with_reducible assumption) | omega | (simp only [World.size_alloc, World.size_setCell, World.size_drew]; omega) | (simp; omega) | (simp; done))), by rw [hly2.out]; exact hO5.cap⟩
        · go_wp2
          refine wp_region_quiet_below (by kernel_rfl) (by kernel_rfl) ?_
          repeat (first | go_big_quiet_step (first | (with_reducible exact cE _ _ _ _)) | quiet_step (first | (with_reducible exact cE _ _ _ _)))
          refine wpQuiet_nil ?_
          intro _ hw_q
          obtain ⟨⟨dq, osq⟩, hw_q'⟩ := hw_q
          subst hw_q'
          have hbq := below_regrown wr dq osq
          generalize Go.Sort.grow (redrawn wr dq) osq = wq at *
          have HB := bel_step hbq hbr (Nat.le_refl _)
          have hzq := HB.size
          have p1 := keep hbq p0
          have f0D := (show Cl wq.drew _ _ from (show Cl wq _ _ from f0.below HB))
          have f1D := (show Cl wq.drew _ _ from (show Cl wq _ _ from f1.below HB))
          have hn1 : ¬ w.heap.size + 1 + 1 = w.heap.size := by omega
          have hn2 : ¬ w.heap.size = w.heap.size + 1 + 1 := by omega
          have lf0 : w.heap.size + 1 + 1 < wq.heap.size := lt_of_cell' f0D.1
          clear k0
          have hrzD := (hrz.below hbq).lt.drew
          go_wp2
          go_region_held3 (fun w' => w'.cell? ⟨w.heap.size, 0, none⟩ = some (.int .i64 r)) (first | go_keep | (refine (hS5.cell ?_ (by simp <;> omega)) <;> go_keep) | (refine (hS6.cell ?_ (by simp <;> omega)) <;> go_keep))
            (first | ((refine step_append_new (by rfl) (.tmp 63) (.tmp 66) _ (by rfl) 47 i0 (.agg #[.int .i64 0, .int .i64 0, .int .i64 0]) 3 24 Try.underlying22 hi iz0 iz1 iz2 rfl (by omega) _ (by rfl) (own_blk (by first | (refine blk_new ?_; simp; done) | (refine blk_al (blk_new ?_); simp; done))) _ 0 _ (tv ys) (by rfl) hly.out (B := wq.heap.size) (by first | exact (HRY.out wq.drew wq.heap.size _).alloc _ | exact ((HRY.out wq.drew wq.heap.size _).alloc _).alloc _) hony.out (by unfold maxLen; omega) (by omega) (by first | omega | (simp <;> omega)) ?_; intro A5 c5 w5 hO5 hS5 hA5; (try simp only [World.size_alloc, World.size_drew] at hA5); have HA5 := Lib.hid hA5; clear hA5; have hrz5 := Rd.outS (B := wq.heap.size) (show Rd _ _ A2 (tv zs) by first | exact hrzD.alloc _ | exact (hrzD.alloc _).alloc _) hS5 (fun b hb => by rw [show b = _ from hb]; first | exact Nat.le_refl _ | exact Nat.le_succ _ | (simp <;> omega)); have f0m := Cl.outS (show Cl _ _ _ by first | exact f0D.alloc _ | exact (f0D.alloc _).alloc _) hS5 (by simp <;> omega); have f1m := Cl.outS (show Cl _ _ _ by first | exact f1D.alloc _ | exact (f1D.alloc _).alloc _) hS5 (by simp <;> omega); have hz55 := hS5.size; simp only [World.size_alloc, World.size_drew] at hz55)) | ((refine step_append_new (by rfl) (.tmp 69) (.tmp 72) _ (by rfl) 47 i0 (.agg #[.int .i64 0, .int .i64 0, .int .i64 0]) 3 24 Try.underlying22 hi iz0 iz1 iz2 rfl (by omega) _ (by rfl) (own_blk (by first | exact blk_new rfl | exact blk_out (by first | (refine blk_new ?_; simp; done) | (refine blk_al (blk_new ?_); simp; done)) hS5 (by simp <;> omega))) A2 k c2 (tv zs) (by rfl) hlz.out (B := wq.heap.size) (by first | exact hrz5 | exact hrz5.alloc _) honz.out (by unfold maxLen; omega) (by omega) (by first | omega | (simp <;> omega)) ?_; intro A6 c6 w6 hO6 hS6 hA6; (try simp only [World.size_alloc, World.size_drew] at hA6); have HA6 := Lib.hid hA6; clear hA6; have f0n := Cl.outS (show Cl _ _ _ by first | exact f0m | exact f0m.alloc _) hS6 (by simp <;> omega); have f0c := f0n.1; have f0f := f0n.2; have f1n := Cl.outS (show Cl _ _ _ by first | exact f1m | exact f1m.alloc _) hS6 (by simp <;> omega); have f1c := f1n.1; have f1f := f1n.2)) | fail)
          all_goals
            have hz66 := hS6.size
            try simp only [World.size_alloc, World.size_drew] at hz66
            have hX5 : ∀ b, (∃ o, A5 = some ⟨b, o, none⟩) → wq.heap.size ≤ b ∧ b < w5.heap.size := by
              rintro b ⟨o, h⟩
              have h1 := hO5.2 _ h
              have h2 := HA5.out b o h
              simp only at h1
              omega
            have hX6 : ∀ b, (∃ o, A6 = some ⟨b, o, none⟩) → wq.heap.size ≤ b ∧ b < w6.heap.size := by
              rintro b ⟨o, h⟩
              have h1 := hO6.2 _ h
              have h2 := HA6.out b o h
              simp only at h1
              omega
            have hD : ∀ b, (∃ o, A5 = some ⟨b, o, none⟩) → ¬ ∃ o, A6 = some ⟨b, o, none⟩ := by
              rintro b ⟨o, h⟩ ⟨o2, h2⟩
              have h3 := HA5.out b o h
              have h4 := HA6.out b o2 h2
              have h5 := hX5 b ⟨o, h⟩
              omega
            have hW5 : Wr w6 _ A5 (tv ys) := Wr.outS (by first | exact hO5.wr1 | exact hO5.wr1.alloc _) hS6 (fun b hb h => by have h1 := hX5 b hb; obtain ⟨o, ho⟩ := hb; have h2 := HA5.out b o ho; have h3 : b = _ := h; omega)
            have hW6 := hO6.wr1
            have hT5 : OutS (fun b => w.heap.size ≤ b) _ _ := hS5.mono (fun b hb => by have h : b = _ := hb; omega)
            have hT6 : OutS (fun b => w.heap.size ≤ b) _ _ := hS6.mono (fun b hb => by have h : b = _ := hb; omega)
            have hT : ∀ b, w.heap.size ≤ b → w.heap.size ≤ b := fun _ h => h
            go_wp2
            refine bodyPost_ret (v := .tuple #[.agg #[.int .i64 r, .slice A5 (0) c5], .slice A6 (k) c6]) (by simp [results, Try.results31, go_sem, f0c, f1c]) rfl ⟨A5, c5, A6, c6, _, _, by rw [hly2.out, hlz2.out], by (repeat' (first | (with_reducible exact hW5) | (with_reducible refine Wr.setOut ?_ _ (fun h => by have := hX5 _ h; first | omega | (simp at this; omega))) | (with_reducible refine Wr.alloc ?_ _) | (with_reducible refine Wr.drewN ?_ _) | (with_reducible refine Wr.drew ?_))), by (repeat' (first | (with_reducible exact hW6) | (with_reducible refine Wr.setOut ?_ _ (fun h => by have := hX6 _ h; first | omega | (simp at this; omega))) | (with_reducible refine Wr.alloc ?_ _) | (with_reducible refine Wr.drewN ?_ _) | (with_reducible refine Wr.drew ?_))), New.mk hX5 (by omega) (by simp; omega), New.mk hX6 (by omega) (by simp), hD, by (repeat' (first | (with_reducible exact Below.refl _ _) | (with_reducible refine bel_alloc ?_ ?_ _) | (with_reducible refine Below.setCell ?_ ?_ _) | (with_reducible refine below_drewN ?_ _) | (with_reducible refine Below.drew ?_) | (with_reducible refine bel_step HB ?_ ?_) | (with_reducible refine bel_step hbU ?_ ?_) | (with_reducible refine bel_outS hT5 hT ?_ ?_) | (with_reducible refine bel_outS hT6 hT ?_ ?_) | (with_reducible exact Nat.le_refl _) | (with_reducible assumption) | omega | (simp only [World.size_alloc, World.size_setCell, World.size_drew]; omega) | (simp; omega) | (simp; done))), by rw [hly2.out]; exact hO5.cap⟩
end Go.Proofs.Yteafpfmndjeanaa
