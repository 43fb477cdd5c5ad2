/- QuarExpire, QuarAdd, of the reference. -/
import Derived.Test.YteafpfmndjeanaaQuarJ
namespace Go.Proofs.Yteafpfmndjeanaa
open Go.ChangeShapes Go.WideShapes Go.ChangeAt Go.RowKit
set_option linter.unusedVariables false
attribute [local go_sem ↓] Go.wp_at_zero Go.wp_at_succ

theorem own_blk {w : World} {g : Nat} {e : TypeId} {size : Nat} (h : w.heap[g]? = some (.cells #[] e)) : w.ownsRow g e size (.slice (some ⟨g, 0, none⟩) 0 0) 0 [] :=
  ⟨by simp, .inr ⟨g, 0, #[], rfl, Nat.le_refl _, h, Nat.le_refl _, Nat.zero_le _, by simp, by simp⟩⟩
theorem blk_new {w : World} {g : Nat} {o : Obj} (hg : g = w.heap.size) : (w.alloc o).heap[g]? = some o := by subst hg; exact heap_alloc_new w o
theorem blk_al {w : World} {g : Nat} {o u : Obj} (h : w.heap[g]? = some u) : (w.alloc o).heap[g]? = some u := by
  have hl : g < w.heap.size := by
    rcases Nat.lt_or_ge g w.heap.size with hl | hl
    · exact hl
    · rw [Array.getElem?_eq_none hl] at h
      cases h
  exact (((Below.refl w.heap.size w).alloc (Nat.le_refl _) o).block g hl).trans h
theorem blk_out {S : Nat → Prop} {w w1 : World} {g : Nat} {u : Obj} (h : w.heap[g]? = some u) (ho : OutS S w w1) (hg : ¬ S g) : w1.heap[g]? = some u := by
  have hl : g < w.heap.size := by
    rcases Nat.lt_or_ge g w.heap.size with hl | hl
    · exact hl
    · rw [Array.getElem?_eq_none hl] at h
      cases h
  exact (ho.block g hl hg).trans h
set_option maxHeartbeats 16000000 in
theorem quarExpire_s_no (r : Int) (A : Option Addr) (n c : Nat) (xs : List St) (p a : Int) (w : World) {B : Nat} (hr : Rd w B A (tv xs)) (hl : xs.length = n) (hn : n ≤ 1048576) (hcap : n ≤ c ∧ c ≤ maxLen) (hno : qOkB r xs = false ∨ btw p 0 1000000 = false ∨ btw a 0 1000000 = false) :
    Calls Try.prog 27 #[.agg #[.int .i64 r, .slice A n c], .int .i64 p, .int .i64 a] w (MadeAdd r xs [] w) := by
  subst hl
  obtain ⟨v1, hv1⟩ : ∃ v, qOkB r xs = v := ⟨_, rfl⟩
  obtain ⟨v2, hv2⟩ : ∃ v, btw p 0 1000000 = v := ⟨_, rfl⟩
  obtain ⟨v3, hv3⟩ : ∃ v, btw a 0 1000000 = v := ⟨_, rfl⟩
  rw [hv1, hv2, hv3] at hno
  go_enter Try.func27, Try.ntmps27
  go_wp2_with fail
  refine (quarOk_s _ _ _ _ _ _ v1 ((hr.alloc _).alloc _) rfl hn hcap hv1).mono ?_
  rintro e u1 ⟨rfl, hb1⟩
  replace hr := ((hr.alloc _).alloc _).below hb1
  have q0 : u1.cell? ⟨w.heap.size, 0, none⟩ = some (.int .i64 r) := keep hb1 (by simp [go_sem])
  have q1 : u1.cell? ⟨w.heap.size, 1, none⟩ = some (.slice A xs.length c) := keep hb1 (by simp [go_sem])
  have f0 : Cl u1 ⟨w.heap.size + 1, 0, none⟩ (.int .i64 0) := Cl.below (by constructor <;> simp [go_sem]) hb1
  have f1 : Cl u1 ⟨w.heap.size + 1, 1, none⟩ (.slice none 0 0) := Cl.below (by constructor <;> simp [go_sem]) hb1
  have hz1 := hb1.size
  try simp only [World.size_alloc, World.size_drew] at hz1
  have lq0 := lt_of_cell' q0
  have f0c := f0.1
  have f0f := f0.2
  have lf0 := lt_of_cell' f0c
  have f1c := f1.1
  have f1f := f1.2
  cases v1
  · go_wp2_with fail
    refine (l22Copy_any _ _ _ _ _ _ hr rfl (by omega)).mono ?_
    rintro e u2 ⟨A', c', rfl, hO, hb2⟩
    clear lq0
    clear f0c f0f f1c f1f
    clear lf0
    replace hr := hr.below hb2
    replace q0 := keep hb2 q0
    replace q1 := keep hb2 q1
    replace f0 := f0.below hb2
    replace f1 := f1.below hb2
    have hz2 := hb2.size
    try simp only [World.size_alloc, World.size_drew] at hz2
    have lq0 := lt_of_cell' q0
    have f0c := f0.1
    have f0f := f0.2
    have lf0 := lt_of_cell' f0c
    have f1c := f1.1
    have f1f := f1.2
    obtain ⟨S, hW, hN⟩ := hO.wr.new (w.heap.size + 2) (fun b h => by have := h.1; (try simp only [World.size_alloc] at this); omega)
    have f0d := cell_al ((Cl.same f0 (.int .i64 r)).other (q := ⟨w.heap.size + 1, 1, none⟩) (.slice A' xs.length c') (by simp)).1 (.cells #[] 47)
    have f1d := cell_al ((f1.other (q := ⟨w.heap.size + 1, 0, none⟩) (.int .i64 r) (by simp)).same (.slice A' xs.length c')).1 (.cells #[] 47)
    go_wp2
    refine bodyPost_ret (v := .tuple #[.agg #[.int .i64 r, .slice A' xs.length c'], .slice (some ⟨u2.heap.size, 0, none⟩) 0 0]) (by simp [results, Try.results27, go_sem, f0c, f1c, f0d, f1d]) rfl ⟨A', c', some ⟨u2.heap.size, 0, none⟩, 0, S, fun _ => False, rfl, by (repeat' (first | (with_reducible exact hW) | (with_reducible refine Wr.setOut ?_ _ (fun h => by have := hN _ h; first | omega | (simp at this; omega))) | (with_reducible refine Wr.alloc ?_ _) | (with_reducible refine Wr.drewN ?_ _) | (with_reducible refine Wr.drew ?_))), .inl rfl, New.mk hN (by omega) (by simp), fun _ h => h.elim, fun _ _ h => h, by (repeat' (first | (with_reducible exact Below.refl _ _) | (with_reducible refine bel_alloc ?_ ?_ _) | (with_reducible refine Below.setCell ?_ ?_ _) | (with_reducible refine below_drewN ?_ _) | (with_reducible refine Below.drew ?_) | (with_reducible refine bel_step hb1 ?_ ?_) | (with_reducible refine bel_step hb2 ?_ ?_) | (with_reducible exact Nat.le_refl _) | (with_reducible assumption) | omega | (simp only [World.size_alloc, World.size_setCell, World.size_drew]; omega) | (simp; omega) | (simp; done)))⟩
  go_wp2_with fail
  refine (l01In_b _ _ _ _ hv2).mono ?_
  rintro e u2 ⟨rfl, hb2⟩
  clear lq0
  clear f0c f0f f1c f1f
  clear lf0
  replace hr := hr.below hb2
  replace q0 := keep hb2 q0
  replace q1 := keep hb2 q1
  replace f0 := f0.below hb2
  replace f1 := f1.below hb2
  have hz2 := hb2.size
  try simp only [World.size_alloc, World.size_drew] at hz2
  have lq0 := lt_of_cell' q0
  have f0c := f0.1
  have f0f := f0.2
  have lf0 := lt_of_cell' f0c
  have f1c := f1.1
  have f1f := f1.2
  cases v2
  · go_wp2_with fail
    refine (l22Copy_any _ _ _ _ _ _ hr rfl (by omega)).mono ?_
    rintro e u3 ⟨A', c', rfl, hO, hb3⟩
    clear lq0
    clear f0c f0f f1c f1f
    clear lf0
    replace hr := hr.below hb3
    replace q0 := keep hb3 q0
    replace q1 := keep hb3 q1
    replace f0 := f0.below hb3
    replace f1 := f1.below hb3
    have hz3 := hb3.size
    try simp only [World.size_alloc, World.size_drew] at hz3
    have lq0 := lt_of_cell' q0
    have f0c := f0.1
    have f0f := f0.2
    have lf0 := lt_of_cell' f0c
    have f1c := f1.1
    have f1f := f1.2
    obtain ⟨S, hW, hN⟩ := hO.wr.new (w.heap.size + 2) (fun b h => by have := h.1; (try simp only [World.size_alloc] at this); omega)
    have f0d := cell_al ((Cl.same f0 (.int .i64 r)).other (q := ⟨w.heap.size + 1, 1, none⟩) (.slice A' xs.length c') (by simp)).1 (.cells #[] 47)
    have f1d := cell_al ((f1.other (q := ⟨w.heap.size + 1, 0, none⟩) (.int .i64 r) (by simp)).same (.slice A' xs.length c')).1 (.cells #[] 47)
    go_wp2
    refine bodyPost_ret (v := .tuple #[.agg #[.int .i64 r, .slice A' xs.length c'], .slice (some ⟨u3.heap.size, 0, none⟩) 0 0]) (by simp [results, Try.results27, go_sem, f0c, f1c, f0d, f1d]) rfl ⟨A', c', some ⟨u3.heap.size, 0, none⟩, 0, S, fun _ => False, rfl, by (repeat' (first | (with_reducible exact hW) | (with_reducible refine Wr.setOut ?_ _ (fun h => by have := hN _ h; first | omega | (simp at this; omega))) | (with_reducible refine Wr.alloc ?_ _) | (with_reducible refine Wr.drewN ?_ _) | (with_reducible refine Wr.drew ?_))), .inl rfl, New.mk hN (by omega) (by simp), fun _ h => h.elim, fun _ _ h => h, by (repeat' (first | (with_reducible exact Below.refl _ _) | (with_reducible refine bel_alloc ?_ ?_ _) | (with_reducible refine Below.setCell ?_ ?_ _) | (with_reducible refine below_drewN ?_ _) | (with_reducible refine Below.drew ?_) | (with_reducible refine bel_step hb1 ?_ ?_) | (with_reducible refine bel_step hb2 ?_ ?_) | (with_reducible refine bel_step hb3 ?_ ?_) | (with_reducible exact Nat.le_refl _) | (with_reducible assumption) | omega | (simp only [World.size_alloc, World.size_setCell, World.size_drew]; omega) | (simp; omega) | (simp; done)))⟩
  go_wp2_with fail
  refine (l01In_b _ _ _ _ hv3).mono ?_
  rintro e u3 ⟨rfl, hb3⟩
  clear lq0
  clear f0c f0f f1c f1f
  clear lf0
  replace hr := hr.below hb3
  replace q0 := keep hb3 q0
  replace q1 := keep hb3 q1
  replace f0 := f0.below hb3
  replace f1 := f1.below hb3
  have hz3 := hb3.size
  try simp only [World.size_alloc, World.size_drew] at hz3
  have lq0 := lt_of_cell' q0
  have f0c := f0.1
  have f0f := f0.2
  have lf0 := lt_of_cell' f0c
  have f1c := f1.1
  have f1f := f1.2
  cases v3
  · go_wp2_with fail
    refine (l22Copy_any _ _ _ _ _ _ hr rfl (by omega)).mono ?_
    rintro e u4 ⟨A', c', rfl, hO, hb4⟩
    clear lq0
    clear f0c f0f f1c f1f
    clear lf0
    replace hr := hr.below hb4
    replace q0 := keep hb4 q0
    replace q1 := keep hb4 q1
    replace f0 := f0.below hb4
    replace f1 := f1.below hb4
    have hz4 := hb4.size
    try simp only [World.size_alloc, World.size_drew] at hz4
    have lq0 := lt_of_cell' q0
    have f0c := f0.1
    have f0f := f0.2
    have lf0 := lt_of_cell' f0c
    have f1c := f1.1
    have f1f := f1.2
    obtain ⟨S, hW, hN⟩ := hO.wr.new (w.heap.size + 2) (fun b h => by have := h.1; (try simp only [World.size_alloc] at this); omega)
    have f0d := cell_al ((Cl.same f0 (.int .i64 r)).other (q := ⟨w.heap.size + 1, 1, none⟩) (.slice A' xs.length c') (by simp)).1 (.cells #[] 47)
    have f1d := cell_al ((f1.other (q := ⟨w.heap.size + 1, 0, none⟩) (.int .i64 r) (by simp)).same (.slice A' xs.length c')).1 (.cells #[] 47)
    go_wp2
    refine bodyPost_ret (v := .tuple #[.agg #[.int .i64 r, .slice A' xs.length c'], .slice (some ⟨u4.heap.size, 0, none⟩) 0 0]) (by simp [results, Try.results27, go_sem, f0c, f1c, f0d, f1d]) rfl ⟨A', c', some ⟨u4.heap.size, 0, none⟩, 0, S, fun _ => False, rfl, by (repeat' (first | (with_reducible exact hW) | (with_reducible refine Wr.setOut ?_ _ (fun h => by have := hN _ h; first | omega | (simp at this; omega))) | (with_reducible refine Wr.alloc ?_ _) | (with_reducible refine Wr.drewN ?_ _) | (with_reducible refine Wr.drew ?_))), .inl rfl, New.mk hN (by omega) (by simp), fun _ h => h.elim, fun _ _ h => h, by (repeat' (first | (with_reducible exact Below.refl _ _) | (with_reducible refine bel_alloc ?_ ?_ _) | (with_reducible refine Below.setCell ?_ ?_ _) | (with_reducible refine below_drewN ?_ _) | (with_reducible refine Below.drew ?_) | (with_reducible refine bel_step hb1 ?_ ?_) | (with_reducible refine bel_step hb2 ?_ ?_) | (with_reducible refine bel_step hb3 ?_ ?_) | (with_reducible refine bel_step hb4 ?_ ?_) | (with_reducible exact Nat.le_refl _) | (with_reducible assumption) | omega | (simp only [World.size_alloc, World.size_setCell, World.size_drew]; omega) | (simp; omega) | (simp; done)))⟩
  simp at hno
set_option maxHeartbeats 16000000 in
theorem quarExpire_s_yes (r : Int) (A : Option Addr) (n c : Nat) (xs : List St) (p a : Int) (w : World) {B : Nat} (hr : Rd w B A (tv xs)) (hl : xs.length = n) (hn : n ≤ 1048576) (hcap : n ≤ c ∧ c ≤ maxLen) (hq : qOkB r xs = true) (hp : btw p 0 1000000 = true) (ha : btw a 0 1000000 = true) (ys zs : List St) (hys : ys = xs.drop (expN p a xs)) (hzs : zs = xs.take (expN p a xs)) :
    Calls Try.prog 27 #[.agg #[.int .i64 r, .slice A n c], .int .i64 p, .int .i64 a] w (MadeAdd r ys zs w) := by
  subst hl
  obtain ⟨i0, hi, iz0, iz1, iz2⟩ := info_parts infoStale
  have HYS := Lib.hid hys
  have HZS := Lib.hid hzs
  have hp1 := of_btw hp
  have ha1 := of_btw ha
  have hcap1 := hcap.1
  clear hys hzs
  go_enter Try.func27, Try.ntmps27
  go_wp2_with fail
  refine (quarOk_s _ _ _ _ _ _ true ((hr.alloc _).alloc _) rfl hn hcap hq).mono ?_
  rintro e u1 ⟨rfl, hb1⟩
  replace hr := ((hr.alloc _).alloc _).below hb1
  have q0 : u1.cell? ⟨w.heap.size, 0, none⟩ = some (.int .i64 r) := keep hb1 (by simp [go_sem])
  have q1 : u1.cell? ⟨w.heap.size, 1, none⟩ = some (.slice A xs.length c) := keep hb1 (by simp [go_sem])
  have f0 : Cl u1 ⟨w.heap.size + 1, 0, none⟩ (.int .i64 0) := Cl.below (by constructor <;> simp [go_sem]) hb1
  have f1 : Cl u1 ⟨w.heap.size + 1, 1, none⟩ (.slice none 0 0) := Cl.below (by constructor <;> simp [go_sem]) hb1
  have hz1 := hb1.size
  try simp only [World.size_alloc, World.size_drew] at hz1
  have lq0 := lt_of_cell' q0
  have f0c := f0.1
  have f0f := f0.2
  have lf0 := lt_of_cell' f0c
  have f1c := f1.1
  have f1f := f1.2
  go_wp2_with fail
  refine (l01In_b _ _ _ _ hp).mono ?_
  rintro e u2 ⟨rfl, hb2⟩
  clear lq0
  clear f0c f0f f1c f1f
  clear lf0
  replace hr := hr.below hb2
  replace q0 := keep hb2 q0
  replace q1 := keep hb2 q1
  replace f0 := f0.below hb2
  replace f1 := f1.below hb2
  have hz2 := hb2.size
  try simp only [World.size_alloc, World.size_drew] at hz2
  have lq0 := lt_of_cell' q0
  have f0c := f0.1
  have f0f := f0.2
  have lf0 := lt_of_cell' f0c
  have f1c := f1.1
  have f1f := f1.2
  go_wp2_with fail
  refine (l01In_b _ _ _ _ ha).mono ?_
  rintro e u3 ⟨rfl, hb3⟩
  clear lq0
  clear f0c f0f f1c f1f
  clear lf0
  replace hr := hr.below hb3
  replace q0 := keep hb3 q0
  replace q1 := keep hb3 q1
  replace f0 := f0.below hb3
  replace f1 := f1.below hb3
  have hz3 := hb3.size
  try simp only [World.size_alloc, World.size_drew] at hz3
  have lq0 := lt_of_cell' q0
  have f0c := f0.1
  have f0f := f0.2
  have lf0 := lt_of_cell' f0c
  have f1c := f1.1
  have f1f := f1.2
  clear hq hp ha
  go_wp2
  have hbW : Below w.heap.size w u3 := by (repeat' (first | (with_reducible exact Below.refl _ _) | (with_reducible refine bel_alloc ?_ ?_ _) | (with_reducible refine Below.setCell ?_ ?_ _) | (with_reducible refine below_drewN ?_ _) | (with_reducible refine Below.drew ?_) | (with_reducible refine bel_step hb1 ?_ ?_) | (with_reducible refine bel_step hb2 ?_ ?_) | (with_reducible refine bel_step hb3 ?_ ?_) | (with_reducible exact Nat.le_refl _) | (with_reducible assumption) | omega | (simp only [World.size_alloc, World.size_setCell, World.size_drew]; omega) | (simp; omega) | (simp; done)))
  have hz5 := lt_of_cell' f0.1
  clear hb1 hb2 hb3
  go_loop [8] (fun v => ∃ k : Nat, k ≤ xs.length ∧ v = .int .i64 k ∧ (∀ j (hj : j < xs.length), j < k → a < p - xs[j].2.2)) (fun v => xs.length - (intOf v).toNat)
  case atStart => exact ⟨0, Nat.zero_le _, rfl, fun j _ hj => absurd hj (by omega)⟩
  case round =>
    obtain ⟨k, hk, rfl, hj⟩ := hrel
    have HJ := Lib.hid hj
    clear hj
    have j0 : (0 : Int) ≤ (k : Int) := by omega
    have j1 : (k : Int) ≤ (xs.length : Int) := by omega
    have j2 : (k : Int) ≤ (c : Int) := by omega
    by_cases hkn : k < xs.length
    · obtain ⟨b1, off1, rfl, -, hc0, hc1, hc2⟩ := hr.trip hkn
      have hlb := lt_of_cell' hc0
      obtain ⟨t, ht⟩ : ∃ t, t = xs[k].2.2 := ⟨_, rfl⟩
      rw [← ht] at hc2
      have HT := Lib.hid ht
      clear ht hc0 hc1
      by_cases hgt : t < p - a
      · go_wp2
        go_round
        case rel =>
          refine ⟨k + 1, by omega, by go_num, fun j hj hk => ?_⟩
          by_cases e : j = k
          · subst e; rw [← HT.out]; omega
          · exact HJ.out j hj (by omega)
        case measure => simp [intOf]; omega
      · have hkk : expN p a xs = k := expN_spec HJ.out hk (fun _ => by rw [← HT.out]; omega)
        have hys : ys = xs.drop k := by rw [HYS.out, hkk]
        have hzs : zs = xs.take k := by rw [HZS.out, hkk]
        have hck : ¬ c = k := by omega
        have hrd := hr
        rw [tv_take xs k] at hrd
        replace hrd := hrd.post
        have htk : (tv (xs.take k)).length = k * 3 := by rw [tv_length, List.length_take, Nat.min_eq_left (by omega)]
        rw [htk] at hrd
        have hly := Lib.hid (show (tv ys).length = (xs.length - k) * 3 by rw [tv_length, hys, List.length_drop])
        have hlz := Lib.hid (show (tv zs).length = k * 3 by rw [tv_length, hzs, List.length_take, Nat.min_eq_left hk])
        have hly2 := Lib.hid (show ys.length = xs.length - k by rw [hys, List.length_drop])
        have hlz2 := Lib.hid (show zs.length = k by rw [hzs, List.length_take, Nat.min_eq_left hk])
        have hrz := hr
        rw [tv_take xs k] at hrz
        replace hrz := hrz.pre
        rw [← hzs] at hrz
        rw [← hys] at hrd
        have hony := Lib.hid (tv_one ys)
        have honz := Lib.hid (tv_one zs)
        clear hkk hys hzs htk
        go_wp2
        have hrdD := (hrd.lt).drew
        have hrzD := (hrz.lt).drew
        have f0D := (show Cl u3.drew _ _ from f0)
        have f1D := (show Cl u3.drew _ _ from f1)
        clear f0c f0f f1c f1f
        go_region_held3 (fun w' => w'.cell? ⟨w.heap.size, 0, none⟩ = some (.int .i64 r) ∧ w'.cell? ⟨w.heap.size, 1, none⟩ = some (.slice (some ⟨b1, off1, none⟩) xs.length c)) (first | go_keep | (refine ⟨hS5.cell ?_ (by simp <;> omega), hS5.cell ?_ (by simp <;> omega)⟩ <;> go_keep) | (refine ⟨hS6.cell ?_ (by simp <;> omega), hS6.cell ?_ (by simp <;> omega)⟩ <;> go_keep))
        (first | ((refine step_append_new (by rfl) (.tmp 46) (.tmp 50) _ (by rfl) 47 i0 (.agg #[.int .i64 0, .int .i64 0, .int .i64 0]) 3 24 Try.underlying22 hi iz0 iz1 iz2 rfl (by omega) _ (by rfl) (own_blk (by first | (refine blk_new ?_; simp; done) | (refine blk_al (blk_new ?_); simp; done))) (some ⟨b1, off1 + k * 3, none⟩) (xs.length - k) (c - k) (tv ys) (by rfl) hly.out (B := u3.heap.size) (by first | exact hrdD.alloc _ | exact (hrdD.alloc _).alloc _) hony.out (by unfold maxLen; omega) (by omega) (by first | omega | (simp <;> omega)) ?_; intro A5 c5 w5 hO5 hS5 hA5; (try simp only [World.size_alloc, World.size_drew] at hA5); have HA5 := Lib.hid hA5; clear hA5; have hrz5 := Rd.outS (B := u3.heap.size) (show Rd _ _ (some ⟨b1, off1, none⟩) (tv zs) by first | exact hrzD.alloc _ | exact (hrzD.alloc _).alloc _) hS5 (fun b hb => by rw [show b = _ from hb]; first | exact Nat.le_refl _ | exact Nat.le_succ _ | (simp <;> omega)); have f0m := Cl.outS (show Cl _ _ _ by first | exact f0D.alloc _ | exact (f0D.alloc _).alloc _) hS5 (by simp <;> omega); have f1m := Cl.outS (show Cl _ _ _ by first | exact f1D.alloc _ | exact (f1D.alloc _).alloc _) hS5 (by simp <;> omega); have hz55 := hS5.size; simp only [World.size_alloc, World.size_drew] at hz55)) | ((refine step_append_new (by rfl) (.tmp 53) (.tmp 57) _ (by rfl) 47 i0 (.agg #[.int .i64 0, .int .i64 0, .int .i64 0]) 3 24 Try.underlying22 hi iz0 iz1 iz2 rfl (by omega) _ (by rfl) (own_blk (by first | exact blk_new rfl | exact blk_out (by first | (refine blk_new ?_; simp; done) | (refine blk_al (blk_new ?_); simp; done)) hS5 (by simp <;> omega))) (some ⟨b1, off1, none⟩) k c (tv zs) (by rfl) hlz.out (B := u3.heap.size) (by first | exact hrz5 | exact hrz5.alloc _) honz.out (by unfold maxLen; omega) (by omega) (by first | omega | (simp <;> omega)) ?_; intro A6 c6 w6 hO6 hS6 hA6; (try simp only [World.size_alloc, World.size_drew] at hA6); have HA6 := Lib.hid hA6; clear hA6; have f0n := Cl.outS (show Cl _ _ _ by first | exact f0m | exact f0m.alloc _) hS6 (by simp <;> omega); have f0c := f0n.1; have f0f := f0n.2; have f1n := Cl.outS (show Cl _ _ _ by first | exact f1m | exact f1m.alloc _) hS6 (by simp <;> omega); have f1c := f1n.1; have f1f := f1n.2)) | fail)
        all_goals
          have hz66 := hS6.size
          try simp only [World.size_alloc, World.size_drew] at hz66
          have hX5 : ∀ b, (∃ o, A5 = some ⟨b, o, none⟩) → u3.heap.size ≤ b ∧ b < w5.heap.size := by
            rintro b ⟨o, h⟩
            have h1 := hO5.2 _ h
            have h2 := HA5.out b o h
            simp only at h1
            omega
          have hX6 : ∀ b, (∃ o, A6 = some ⟨b, o, none⟩) → u3.heap.size ≤ b ∧ b < w6.heap.size := by
            rintro b ⟨o, h⟩
            have h1 := hO6.2 _ h
            have h2 := HA6.out b o h
            simp only at h1
            omega
          have hD : ∀ b, (∃ o, A5 = some ⟨b, o, none⟩) → ¬ ∃ o, A6 = some ⟨b, o, none⟩ := by
            rintro b ⟨o, h⟩ ⟨o2, h2⟩
            have h3 := HA5.out b o h
            have h4 := HA6.out b o2 h2
            have h5 := hX5 b ⟨o, h⟩
            omega
          have hW5 : Wr w6 _ A5 (tv ys) := Wr.outS (by first | exact hO5.wr1 | exact hO5.wr1.alloc _) hS6 (fun b hb h => by have h1 := hX5 b hb; obtain ⟨o, ho⟩ := hb; have h2 := HA5.out b o ho; have h3 : b = _ := h; omega)
          have hW6 := hO6.wr1
          have hT5 : OutS (fun b => w.heap.size ≤ b) _ _ := hS5.mono (fun b hb => by have h : b = _ := hb; omega)
          have hT6 : OutS (fun b => w.heap.size ≤ b) _ _ := hS6.mono (fun b hb => by have h : b = _ := hb; omega)
          have hT : ∀ b, w.heap.size ≤ b → w.heap.size ≤ b := fun _ h => h
          go_wp2
          refine bodyPost_ret (v := .tuple #[.agg #[.int .i64 r, .slice A5 (xs.length - k) c5], .slice A6 (k) c6]) (by simp [results, Try.results27, go_sem, f0c, f1c]) rfl ⟨A5, c5, A6, c6, _, _, by rw [hly2.out, hlz2.out], by (repeat' (first | (with_reducible exact hW5) | (with_reducible refine Wr.setOut ?_ _ (fun h => by have := hX5 _ h; first | omega | (simp at this; omega))) | (with_reducible refine Wr.alloc ?_ _) | (with_reducible refine Wr.drewN ?_ _) | (with_reducible refine Wr.drew ?_))), by (repeat' (first | (with_reducible exact hW6) | (with_reducible refine Wr.setOut ?_ _ (fun h => by have := hX6 _ h; first | omega | (simp at this; omega))) | (with_reducible refine Wr.alloc ?_ _) | (with_reducible refine Wr.drewN ?_ _) | (with_reducible refine Wr.drew ?_))), New.mk hX5 (by omega) (by simp; omega), New.mk hX6 (by omega) (by simp), hD, by (repeat' (first | (with_reducible exact Below.refl _ _) | (with_reducible refine bel_alloc ?_ ?_ _) | (with_reducible refine Below.setCell ?_ ?_ _) | (with_reducible refine below_drewN ?_ _) | (with_reducible refine Below.drew ?_) | (with_reducible refine bel_step hbW ?_ ?_) | (with_reducible refine bel_outS hT5 hT ?_ ?_) | (with_reducible refine bel_outS hT6 hT ?_ ?_) | (with_reducible exact Nat.le_refl _) | (with_reducible assumption) | omega | (simp only [World.size_alloc, World.size_setCell, World.size_drew]; omega) | (simp; omega) | (simp; done)))⟩
    · obtain rfl : k = xs.length := by omega
      have hkk : expN p a xs = xs.length := expN_spec HJ.out (Nat.le_refl _) (fun h => absurd h (by omega))
      have hys : ys = [] := by rw [HYS.out, hkk, List.drop_of_length_le (by omega)]
      have hzs : zs = xs := by rw [HZS.out, hkk, List.take_of_length_le (by omega)]
      have hrz := hr
      rw [← hzs] at hrz
      have hly := Lib.hid (show (tv ys).length = 0 * 3 by rw [hys]; rfl)
      have hlz := Lib.hid (show (tv zs).length = xs.length * 3 by rw [hzs, tv_length])
      have hly2 := Lib.hid (show ys.length = 0 by rw [hys]; rfl)
      have hlz2 := Lib.hid (show zs.length = xs.length by rw [hzs])
      have hrd := fun (D : Option Addr) => (show Rd u3.drew u3.heap.size D (tv ys) by rw [hys]; exact .inl rfl)
      have HRD := Lib.hid hrd
      have hony := Lib.hid (tv_one ys)
      have honz := Lib.hid (tv_one zs)
      clear hkk hys hzs hrd
      by_cases hck : c = xs.length
      · subst hck
        go_wp2
        have hrzD := (hrz.lt).drew
        have f0D := (show Cl u3.drew _ _ from f0)
        have f1D := (show Cl u3.drew _ _ from f1)
        clear f0c f0f f1c f1f
        go_region_held3 (fun w' => w'.cell? ⟨w.heap.size, 0, none⟩ = some (.int .i64 r) ∧ w'.cell? ⟨w.heap.size, 1, none⟩ = some (.slice A xs.length xs.length)) (first | go_keep | (refine ⟨hS5.cell ?_ (by simp <;> omega), hS5.cell ?_ (by simp <;> omega)⟩ <;> go_keep) | (refine ⟨hS6.cell ?_ (by simp <;> omega), hS6.cell ?_ (by simp <;> omega)⟩ <;> go_keep))
        (first | ((refine step_append_new (by rfl) (.tmp 46) (.tmp 50) _ (by rfl) 47 i0 (.agg #[.int .i64 0, .int .i64 0, .int .i64 0]) 3 24 Try.underlying22 hi iz0 iz1 iz2 rfl (by omega) _ (by rfl) (own_blk (by first | (refine blk_new ?_; simp; done) | (refine blk_al (blk_new ?_); simp; done))) _ 0 _ (tv ys) (by rfl) hly.out (B := u3.heap.size) (by first | exact (HRD.out _).alloc _ | exact ((HRD.out _).alloc _).alloc _) hony.out (by unfold maxLen; omega) (by omega) (by first | omega | (simp <;> omega)) ?_; intro A5 c5 w5 hO5 hS5 hA5; (try simp only [World.size_alloc, World.size_drew] at hA5); have HA5 := Lib.hid hA5; clear hA5; have hrz5 := Rd.outS (B := u3.heap.size) (show Rd _ _ A (tv zs) by first | exact hrzD.alloc _ | exact (hrzD.alloc _).alloc _) hS5 (fun b hb => by rw [show b = _ from hb]; first | exact Nat.le_refl _ | exact Nat.le_succ _ | (simp <;> omega)); have f0m := Cl.outS (show Cl _ _ _ by first | exact f0D.alloc _ | exact (f0D.alloc _).alloc _) hS5 (by simp <;> omega); have f1m := Cl.outS (show Cl _ _ _ by first | exact f1D.alloc _ | exact (f1D.alloc _).alloc _) hS5 (by simp <;> omega); have hz55 := hS5.size; simp only [World.size_alloc, World.size_drew] at hz55)) | ((refine step_append_new (by rfl) (.tmp 53) (.tmp 57) _ (by rfl) 47 i0 (.agg #[.int .i64 0, .int .i64 0, .int .i64 0]) 3 24 Try.underlying22 hi iz0 iz1 iz2 rfl (by omega) _ (by rfl) (own_blk (by first | exact blk_new rfl | exact blk_out (by first | (refine blk_new ?_; simp; done) | (refine blk_al (blk_new ?_); simp; done)) hS5 (by simp <;> omega))) A xs.length xs.length (tv zs) (by rfl) hlz.out (B := u3.heap.size) (by first | exact hrz5 | exact hrz5.alloc _) honz.out (by unfold maxLen; omega) (by omega) (by first | omega | (simp <;> omega)) ?_; intro A6 c6 w6 hO6 hS6 hA6; (try simp only [World.size_alloc, World.size_drew] at hA6); have HA6 := Lib.hid hA6; clear hA6; have f0n := Cl.outS (show Cl _ _ _ by first | exact f0m | exact f0m.alloc _) hS6 (by simp <;> omega); have f0c := f0n.1; have f0f := f0n.2; have f1n := Cl.outS (show Cl _ _ _ by first | exact f1m | exact f1m.alloc _) hS6 (by simp <;> omega); have f1c := f1n.1; have f1f := f1n.2)) | fail)
        all_goals
          have hz66 := hS6.size
          try simp only [World.size_alloc, World.size_drew] at hz66
          have hX5 : ∀ b, (∃ o, A5 = some ⟨b, o, none⟩) → u3.heap.size ≤ b ∧ b < w5.heap.size := by
            rintro b ⟨o, h⟩
            have h1 := hO5.2 _ h
            have h2 := HA5.out b o h
            simp only at h1
            omega
          have hX6 : ∀ b, (∃ o, A6 = some ⟨b, o, none⟩) → u3.heap.size ≤ b ∧ b < w6.heap.size := by
            rintro b ⟨o, h⟩
            have h1 := hO6.2 _ h
            have h2 := HA6.out b o h
            simp only at h1
            omega
          have hD : ∀ b, (∃ o, A5 = some ⟨b, o, none⟩) → ¬ ∃ o, A6 = some ⟨b, o, none⟩ := by
            rintro b ⟨o, h⟩ ⟨o2, h2⟩
            have h3 := HA5.out b o h
            have h4 := HA6.out b o2 h2
            have h5 := hX5 b ⟨o, h⟩
            omega
          have hW5 : Wr w6 _ A5 (tv ys) := Wr.outS (by first | exact hO5.wr1 | exact hO5.wr1.alloc _) hS6 (fun b hb h => by have h1 := hX5 b hb; obtain ⟨o, ho⟩ := hb; have h2 := HA5.out b o ho; have h3 : b = _ := h; omega)
          have hW6 := hO6.wr1
          have hT5 : OutS (fun b => w.heap.size ≤ b) _ _ := hS5.mono (fun b hb => by have h : b = _ := hb; omega)
          have hT6 : OutS (fun b => w.heap.size ≤ b) _ _ := hS6.mono (fun b hb => by have h : b = _ := hb; omega)
          have hT : ∀ b, w.heap.size ≤ b → w.heap.size ≤ b := fun _ h => h
          go_wp2
          refine bodyPost_ret (v := .tuple #[.agg #[.int .i64 r, .slice A5 (0) c5], .slice A6 (xs.length) c6]) (by simp [results, Try.results27, go_sem, f0c, f1c]) rfl ⟨A5, c5, A6, c6, _, _, by rw [hly2.out, hlz2.out], by (repeat' (first | (with_reducible exact hW5) | (with_reducible refine Wr.setOut ?_ _ (fun h => by have := hX5 _ h; first | omega | (simp at this; omega))) | (with_reducible refine Wr.alloc ?_ _) | (with_reducible refine Wr.drewN ?_ _) | (with_reducible refine Wr.drew ?_))), by (repeat' (first | (with_reducible exact hW6) | (with_reducible refine Wr.setOut ?_ _ (fun h => by have := hX6 _ h; first | omega | (simp at this; omega))) | (with_reducible refine Wr.alloc ?_ _) | (with_reducible refine Wr.drewN ?_ _) | (with_reducible refine Wr.drew ?_))), New.mk hX5 (by omega) (by simp; omega), New.mk hX6 (by omega) (by simp), hD, by (repeat' (first | (with_reducible exact Below.refl _ _) | (with_reducible refine bel_alloc ?_ ?_ _) | (with_reducible refine Below.setCell ?_ ?_ _) | (with_reducible refine below_drewN ?_ _) | (with_reducible refine Below.drew ?_) | (with_reducible refine bel_step hbW ?_ ?_) | (with_reducible refine bel_outS hT5 hT ?_ ?_) | (with_reducible refine bel_outS hT6 hT ?_ ?_) | (with_reducible exact Nat.le_refl _) | (with_reducible assumption) | omega | (simp only [World.size_alloc, World.size_setCell, World.size_drew]; omega) | (simp; omega) | (simp; done)))⟩
      · go_wp2
        have hrzD := (hrz.lt).drew
        have f0D := (show Cl u3.drew _ _ from f0)
        have f1D := (show Cl u3.drew _ _ from f1)
        clear f0c f0f f1c f1f
        go_region_held3 (fun w' => w'.cell? ⟨w.heap.size, 0, none⟩ = some (.int .i64 r) ∧ w'.cell? ⟨w.heap.size, 1, none⟩ = some (.slice A xs.length c)) (first | go_keep | (refine ⟨hS5.cell ?_ (by simp <;> omega), hS5.cell ?_ (by simp <;> omega)⟩ <;> go_keep) | (refine ⟨hS6.cell ?_ (by simp <;> omega), hS6.cell ?_ (by simp <;> omega)⟩ <;> go_keep))
        (first | ((refine step_append_new (by rfl) (.tmp 46) (.tmp 50) _ (by rfl) 47 i0 (.agg #[.int .i64 0, .int .i64 0, .int .i64 0]) 3 24 Try.underlying22 hi iz0 iz1 iz2 rfl (by omega) _ (by rfl) (own_blk (by first | (refine blk_new ?_; simp; done) | (refine blk_al (blk_new ?_); simp; done))) _ 0 _ (tv ys) (by rfl) hly.out (B := u3.heap.size) (by first | exact (HRD.out _).alloc _ | exact ((HRD.out _).alloc _).alloc _) hony.out (by unfold maxLen; omega) (by omega) (by first | omega | (simp <;> omega)) ?_; intro A5 c5 w5 hO5 hS5 hA5; (try simp only [World.size_alloc, World.size_drew] at hA5); have HA5 := Lib.hid hA5; clear hA5; have hrz5 := Rd.outS (B := u3.heap.size) (show Rd _ _ A (tv zs) by first | exact hrzD.alloc _ | exact (hrzD.alloc _).alloc _) hS5 (fun b hb => by rw [show b = _ from hb]; first | exact Nat.le_refl _ | exact Nat.le_succ _ | (simp <;> omega)); have f0m := Cl.outS (show Cl _ _ _ by first | exact f0D.alloc _ | exact (f0D.alloc _).alloc _) hS5 (by simp <;> omega); have f1m := Cl.outS (show Cl _ _ _ by first | exact f1D.alloc _ | exact (f1D.alloc _).alloc _) hS5 (by simp <;> omega); have hz55 := hS5.size; simp only [World.size_alloc, World.size_drew] at hz55)) | ((refine step_append_new (by rfl) (.tmp 53) (.tmp 57) _ (by rfl) 47 i0 (.agg #[.int .i64 0, .int .i64 0, .int .i64 0]) 3 24 Try.underlying22 hi iz0 iz1 iz2 rfl (by omega) _ (by rfl) (own_blk (by first | exact blk_new rfl | exact blk_out (by first | (refine blk_new ?_; simp; done) | (refine blk_al (blk_new ?_); simp; done)) hS5 (by simp <;> omega))) A xs.length c (tv zs) (by rfl) hlz.out (B := u3.heap.size) (by first | exact hrz5 | exact hrz5.alloc _) honz.out (by unfold maxLen; omega) (by omega) (by first | omega | (simp <;> omega)) ?_; intro A6 c6 w6 hO6 hS6 hA6; (try simp only [World.size_alloc, World.size_drew] at hA6); have HA6 := Lib.hid hA6; clear hA6; have f0n := Cl.outS (show Cl _ _ _ by first | exact f0m | exact f0m.alloc _) hS6 (by simp <;> omega); have f0c := f0n.1; have f0f := f0n.2; have f1n := Cl.outS (show Cl _ _ _ by first | exact f1m | exact f1m.alloc _) hS6 (by simp <;> omega); have f1c := f1n.1; have f1f := f1n.2)) | fail)
        all_goals
          have hz66 := hS6.size
          try simp only [World.size_alloc, World.size_drew] at hz66
          have hX5 : ∀ b, (∃ o, A5 = some ⟨b, o, none⟩) → u3.heap.size ≤ b ∧ b < w5.heap.size := by
            rintro b ⟨o, h⟩
            have h1 := hO5.2 _ h
            have h2 := HA5.out b o h
            simp only at h1
            omega
          have hX6 : ∀ b, (∃ o, A6 = some ⟨b, o, none⟩) → u3.heap.size ≤ b ∧ b < w6.heap.size := by
            rintro b ⟨o, h⟩
            have h1 := hO6.2 _ h
            have h2 := HA6.out b o h
            simp only at h1
            omega
          have hD : ∀ b, (∃ o, A5 = some ⟨b, o, none⟩) → ¬ ∃ o, A6 = some ⟨b, o, none⟩ := by
            rintro b ⟨o, h⟩ ⟨o2, h2⟩
            have h3 := HA5.out b o h
            have h4 := HA6.out b o2 h2
            have h5 := hX5 b ⟨o, h⟩
            omega
          have hW5 : Wr w6 _ A5 (tv ys) := Wr.outS (by first | exact hO5.wr1 | exact hO5.wr1.alloc _) hS6 (fun b hb h => by have h1 := hX5 b hb; obtain ⟨o, ho⟩ := hb; have h2 := HA5.out b o ho; have h3 : b = _ := h; omega)
          have hW6 := hO6.wr1
          have hT5 : OutS (fun b => w.heap.size ≤ b) _ _ := hS5.mono (fun b hb => by have h : b = _ := hb; omega)
          have hT6 : OutS (fun b => w.heap.size ≤ b) _ _ := hS6.mono (fun b hb => by have h : b = _ := hb; omega)
          have hT : ∀ b, w.heap.size ≤ b → w.heap.size ≤ b := fun _ h => h
          go_wp2
          refine bodyPost_ret (v := .tuple #[.agg #[.int .i64 r, .slice A5 (0) c5], .slice A6 (xs.length) c6]) (by simp [results, Try.results27, go_sem, f0c, f1c]) rfl ⟨A5, c5, A6, c6, _, _, by rw [hly2.out, hlz2.out], by (repeat' (first | (with_reducible exact hW5) | (with_reducible refine Wr.setOut ?_ _ (fun h => by have := hX5 _ h; first | omega | (simp at this; omega))) | (with_reducible refine Wr.alloc ?_ _) | (with_reducible refine Wr.drewN ?_ _) | (with_reducible refine Wr.drew ?_))), by (repeat' (first | (with_reducible exact hW6) | (with_reducible refine Wr.setOut ?_ _ (fun h => by have := hX6 _ h; first | omega | (simp at this; omega))) | (with_reducible refine Wr.alloc ?_ _) | (with_reducible refine Wr.drewN ?_ _) | (with_reducible refine Wr.drew ?_))), New.mk hX5 (by omega) (by simp; omega), New.mk hX6 (by omega) (by simp), hD, by (repeat' (first | (with_reducible exact Below.refl _ _) | (with_reducible refine bel_alloc ?_ ?_ _) | (with_reducible refine Below.setCell ?_ ?_ _) | (with_reducible refine below_drewN ?_ _) | (with_reducible refine Below.drew ?_) | (with_reducible refine bel_step hbW ?_ ?_) | (with_reducible refine bel_outS hT5 hT ?_ ?_) | (with_reducible refine bel_outS hT6 hT ?_ ?_) | (with_reducible exact Nat.le_refl _) | (with_reducible assumption) | omega | (simp only [World.size_alloc, World.size_setCell, World.size_drew]; omega) | (simp; omega) | (simp; done)))⟩
end Go.Proofs.Yteafpfmndjeanaa
