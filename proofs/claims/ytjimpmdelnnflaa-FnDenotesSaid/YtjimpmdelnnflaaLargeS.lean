/- The laws' functions on []Large. -/
import Derived.Test.YtjimpmdelnnflaaFlat3
import Derived.Test.YtjimpmdelnnflaaSet
import Derived.Test.YtjimpmdelnnflaaInfo
import Derived.Test.YtjimpmdelnnflaaSize
import Derived.Lib.QuietBelow
namespace Go.Proofs.Ytjimpmdelnnflaa
open Go.ChangeShapes Go.WideShapes Go.ChangeAt Go.RowKit
set_option linter.unusedVariables false

theorem szLargeS_any (A : Option Addr) (n c : Nat) (left : Int) (w : World) (h0 : 0 ≤ left) (h1 : left ≤ 1048576) (hn : n ≤ maxLen) :
    Calls Try.prog 20 #[.slice A n c, .int .i64 left] w (Sized left ((n : Int) ≤ left) w) := by
  unfold maxLen at hn
  by_cases h : left - (n : Int) < 0
  all_goals
    go_enter Try.func20, Try.ntmps20
    go_wp2
    go_ret
    exact ⟨_, rfl, by omega, by omega, by (repeat' (first | (with_reducible exact Below.refl _ _) | (with_reducible refine bel_alloc ?_ ?_ _) | (with_reducible refine Below.setCell ?_ ?_ _) | (with_reducible refine below_drewN ?_ _) | (with_reducible refine Below.drew ?_) | (with_reducible exact Nat.le_refl _) | (with_reducible assumption) | omega | (simp only [World.size_alloc, World.size_setCell, World.size_drew]; omega) | (simp; omega) | (simp; done)))⟩

theorem toLarge_any (x y z : Int) (w : World) :
    Calls Try.prog 52 #[.agg #[.int .i64 x, .int .i64 y, .int .i64 z]] w fun e w' => e = .returned (.agg #[.int .i64 x, .int .i64 y, .int .i64 z]) ∧ Below w.heap.size w w' := by
  go_enter Try.func52, Try.ntmps52
  go_wp2
  refine bodyPost_ret (v := .agg #[.int .i64 x, .int .i64 y, .int .i64 z]) (by simp [results, Try.results52, go_sem]) rfl ⟨rfl, ?_⟩
  (repeat' (first | (with_reducible exact Below.refl _ _) | (with_reducible refine bel_alloc ?_ ?_ _) | (with_reducible refine Below.setCell ?_ ?_ _) | (with_reducible refine below_drewN ?_ _) | (with_reducible refine Below.drew ?_) | (with_reducible exact Nat.le_refl _) | (with_reducible assumption) | omega | (simp only [World.size_alloc, World.size_setCell, World.size_drew]; omega) | (simp; omega) | (simp; done)))
theorem eqLarge_same (x y z : Int) (w : World) :
    Calls Try.prog 54 #[.agg #[.int .i64 x, .int .i64 y, .int .i64 z], .agg #[.int .i64 x, .int .i64 y, .int .i64 z]] w fun e w' => e = .returned (.bool true) ∧ Below w.heap.size w w' := by
  go_enter Try.func54, Try.ntmps54
  go_wp2
  go_ret
  exact ⟨rfl, by (repeat' (first | (with_reducible exact Below.refl _ _) | (with_reducible refine bel_alloc ?_ ?_ _) | (with_reducible refine Below.setCell ?_ ?_ _) | (with_reducible refine below_drewN ?_ _) | (with_reducible refine Below.drew ?_) | (with_reducible exact Nat.le_refl _) | (with_reducible assumption) | omega | (simp only [World.size_alloc, World.size_setCell, World.size_drew]; omega) | (simp; omega) | (simp; done)))⟩
theorem infoLarge : (Try.prog.info? 62).map (fun i => (i.zero, i.size, i.bytes)) = some (some (.agg #[.int .i64 0, .int .i64 0, .int .i64 0]), 3, 8 * 3) := by kernel_rfl
abbrev OwLarge (w : World) (lo hi : Nat) (A : Option Addr) (c : Nat) (xs : List (Int × Int × Int)) : Prop := Ow w lo hi 62 3 A xs.length c (tv xs)
def MadeLarge (xs : List (Int × Int × Int)) (w : World) (e : Ending) (w' : World) : Prop :=
  ∃ A c, e = .returned (.slice A xs.length c) ∧ OwLarge w' w.heap.size w'.heap.size A c xs ∧ Below w.heap.size w w'
set_option maxHeartbeats 2000000 in
theorem toLargeS_any (A : Option Addr) (c : Nat) (xs : List (Int × Int × Int)) (w : World) {B : Nat} (hr : Rd w B A (tv xs)) (hn : xs.length ≤ 1048576) :
    Calls Try.prog 23 #[.slice A xs.length c] w (MadeLarge xs w) := by
  obtain ⟨i0, hi, hz0, hz1, hz2⟩ := info_parts infoLarge
  go_enter Try.func23, Try.ntmps23
  go_wp2_with (with_reducible refine wpList_make_full _ rfl (.tmp 6) (.tmp 6) _ rfl w.heap.size 62 i0 (.agg #[.int .i64 0, .int .i64 0, .int .i64 0]) 3 Try.underlying25 hi hz0 hz1 .i64 .i64 _ _ xs.length rfl rfl rfl rfl (by rw [hz2]; omega) (by unfold maxLen; omega) (Nat.le_refl _) ?_; intro w1 hown hgrow)
  have hb1 : Below w.heap.size w w1 := (Below.refl _ _).grown hgrow (Nat.le_refl _) (by simp)
  clear hgrow
  go_loopw [4] (fun v wr => ∃ k : Nat, k ≤ xs.length ∧ v = .int .i64 k ∧ Below w.heap.size w wr ∧ ∃ cur : List Value, (∀ j, j < k * 3 → cur[j]? = (tv xs)[j]?) ∧ wr.ownsRow w.heap.size 62 3 (.slice (some ⟨w.heap.size, 0, none⟩) xs.length xs.length) xs.length cur)
    (fun v _ => xs.length - (intOf v).toNat)
  case atStart => exact ⟨0, Nat.zero_le _, rfl, hb1, _, fun j hj => absurd hj (by omega), hown⟩
  case round =>
    obtain ⟨k, hk, rfl, hbr, cur, hcur, hownr⟩ := hrel
    clear hb1 hown
    by_cases hlt : k < xs.length
    · obtain ⟨b, off, rfl, -, hc0, hc1, hc2⟩ := (hr.lt.below hbr).trip hlt
      have hp := tv_at xs hlt
      obtain ⟨x, hx⟩ : ∃ x, x = xs[k].1 := ⟨_, rfl⟩
      obtain ⟨y, hy⟩ : ∃ y, y = xs[k].2.1 := ⟨_, rfl⟩
      obtain ⟨z, hz⟩ : ∃ z, z = xs[k].2.2 := ⟨_, rfl⟩
      rw [← hx] at hc0 hp
      rw [← hy] at hc1 hp
      rw [← hz] at hc2 hp
      clear hx hy hz
      have HP := Lib.hid hp
      have HL := Lib.hid hownr.1
      have HC := Lib.hid hcur
      clear hp hcur
      go_wp2_with fail
      refine (toLarge_any _ _ _ _).mono ?_
      rintro e w2 ⟨rfl, hb2⟩
      have how := own_below' hownr hb2
      obtain ⟨u0, hcg0⟩ : ∃ u, w2.cell? ⟨w.heap.size, k * 3, none⟩ = some u := ⟨cur[k * 3]'(by have := HL.out; omega), by rw [how.cellAt (k * 3) (by omega)]; exact List.getElem?_eq_getElem _⟩
      obtain ⟨u1, hcg1⟩ : ∃ u, w2.cell? ⟨w.heap.size, k * 3 + 1, none⟩ = some u := ⟨cur[k * 3 + 1]'(by have := HL.out; omega), by rw [how.cellAt (k * 3 + 1) (by omega)]; exact List.getElem?_eq_getElem _⟩
      obtain ⟨u2, hcg2⟩ : ∃ u, w2.cell? ⟨w.heap.size, k * 3 + 2, none⟩ = some u := ⟨cur[k * 3 + 2]'(by have := HL.out; omega), by rw [how.cellAt (k * 3 + 2) (by omega)]; exact List.getElem?_eq_getElem _⟩
      have hfg0 := how.frozenAt (k * 3)
      have hfg1 := how.frozenAt (k * 3 + 1)
      have hfg2 := how.frozenAt (k * 3 + 2)
      go_wp2
      have s0 := (how.stored (k * 3) (.int .i64 x)).1
      have s1 := (s0.stored (k * 3 + 1) (.int .i64 y)).1
      have s2 := (s1.stored (k * 3 + 2) (.int .i64 z)).1
      go_roundw
      case rel =>
        refine ⟨k + 1, by omega, by go_num, (((bel_step hb2 hbr (Nat.le_refl _)).setCell (Nat.le_refl _) _).setCell (Nat.le_refl _) _).setCell (Nat.le_refl _) _, (((cur.set (k * 3) (.int .i64 x)).set (k * 3 + 1) (.int .i64 y)).set (k * 3 + 2) (.int .i64 z)), fun j hj => ?_, s2⟩
        have hl := HL.out
        simp only [List.getElem?_set, List.length_set]
        by_cases e2 : k * 3 + 2 = j
        · rw [if_pos e2, if_pos (by omega), ← e2, HP.out.2.2]
        · rw [if_neg e2]
          by_cases e1 : k * 3 + 1 = j
          · rw [if_pos e1, if_pos (by omega), ← e1, HP.out.2.1]
          · rw [if_neg e1]
            by_cases e0 : k * 3 = j
            · rw [if_pos e0, if_pos (by omega), ← e0, HP.out.1]
            · rw [if_neg e0]
              exact HC.out j (by omega)
      case measure => simp [intOf]; omega
    · have hkn : k = xs.length := by omega
      have hcu : cur = tv xs := by
        apply List.ext_getElem?
        intro j
        by_cases hj : j < k * 3
        · exact hcur j hj
        · rw [List.getElem?_eq_none (by have := hownr.1; omega), List.getElem?_eq_none (by rw [tv_length]; omega)]
      subst hkn
      have HU := Lib.hid hcu
      clear hcu hcur
      go_wp2
      go_ret
      exact ⟨_, _, rfl, Ow.mk' (by have h2 := hownr; rw [HU.out] at h2; exact h2), hbr⟩
set_option maxHeartbeats 2000000 in
theorem eqLargeS_same (A B : Option Addr) (c d : Nat) (xs : List (Int × Int × Int)) (w : World) {B1 B2 : Nat} (hx : Rd w B1 A (tv xs)) (hy : Rd w B2 B (tv xs)) (hn : xs.length ≤ 1048576) :
    Calls Try.prog 26 #[.slice A xs.length c, .slice B xs.length d] w fun e w' => e = .returned (.bool true) ∧ Below w.heap.size w w' := by
  have hne : ((xs.length : Int) != (xs.length : Int)) = false := by simp
  go_enter Try.func26, Try.ntmps26
  go_wp2
  go_loopw [5] (fun v wr => ∃ k : Nat, k ≤ xs.length ∧ v = .int .i64 k ∧ Below w.heap.size w wr) (fun v _ => xs.length - (intOf v).toNat)
  case atStart => exact ⟨0, Nat.zero_le _, rfl, Below.refl _ _⟩
  case round =>
    obtain ⟨k, hk, rfl, hbr⟩ := hrel
    by_cases hlt : k < xs.length
    · obtain ⟨b, off, rfl, -, hc0, hc1, hc2⟩ := (hx.lt.below hbr).trip hlt
      obtain ⟨b2, off2, rfl, -, hd0, hd1, hd2⟩ := (hy.lt.below hbr).trip hlt
      obtain ⟨x, hx⟩ : ∃ x, x = xs[k].1 := ⟨_, rfl⟩
      obtain ⟨y, hy⟩ : ∃ y, y = xs[k].2.1 := ⟨_, rfl⟩
      obtain ⟨z, hz⟩ : ∃ z, z = xs[k].2.2 := ⟨_, rfl⟩
      rw [← hx] at hc0 hd0
      rw [← hy] at hc1 hd1
      rw [← hz] at hc2 hd2
      clear hx hy hz
      have i0 : (0 : Int) ≤ (k : Int) := by omega
      have i1 : (k : Int) < (xs.length : Int) := by omega
      have k0 := cell_regrown hc0
      have j0 := cell_regrown hd0
      have k1 := cell_regrown hc1
      have j1 := cell_regrown hd1
      have k2 := cell_regrown hc2
      have j2 := cell_regrown hd2
      have cE : ∀ d os, Calls Try.prog 54 #[.agg #[.int .i64 x, .int .i64 y, .int .i64 z], .agg #[.int .i64 x, .int .i64 y, .int .i64 z]] (Go.Sort.grow (redrawn wr d) os) fun e w'' => e = .returned (.bool true) ∧ ∃ p : Regrown, w'' = Go.Sort.grow (redrawn wr p.d) p.os := fun d os => Calls.regrown_of (eqLarge_same x y z _)
      go_wp2
      refine wp_region_quiet_below (by kernel_rfl) (by kernel_rfl) ?_
      repeat (first | go_big_quiet_step (first | (with_reducible exact cE _ _)) | quiet_step (first | (with_reducible exact cE _ _)))
      refine wpQuiet_nil ?_
      intro _ hw_q
      obtain ⟨⟨dq, osq⟩, hw_q'⟩ := hw_q
      subst hw_q'
      have hbq := below_regrown wr dq osq
      generalize Go.Sort.grow (redrawn wr dq) osq = wq at *
      go_wp2
      go_roundw
      case rel => exact ⟨k + 1, by omega, by go_num, bel_step hbq hbr (Nat.le_refl _)⟩
      case measure => simp [intOf]; omega
    · go_wp2
      go_ret
      exact ⟨rfl, hbr⟩
end Go.Proofs.Ytjimpmdelnnflaa
