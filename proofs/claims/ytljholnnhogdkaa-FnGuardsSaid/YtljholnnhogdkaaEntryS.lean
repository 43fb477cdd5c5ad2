/- The laws' functions on []Entry. -/
import Derived.Test.YtljholnnhogdkaaFlat3
import Derived.Test.YtljholnnhogdkaaSet
import Derived.Test.YtljholnnhogdkaaInfo
import Derived.Test.YtljholnnhogdkaaSize
import Derived.Lib.QuietBelow
namespace Go.Proofs.Ytljholnnhogdkaa
open Go.ChangeShapes Go.WideShapes Go.ChangeAt Go.RowKit
set_option linter.unusedVariables false

theorem szEntryS_any (A : Option Addr) (n c : Nat) (left : Int) (w : World) (h0 : 0 ≤ left) (h1 : left ≤ 1048576) (hn : n ≤ maxLen) :
    Calls Try.prog 58 #[.slice A n c, .int .i64 left] w (Sized left ((n : Int) ≤ left) w) := by
  unfold maxLen at hn
  by_cases h : left - (n : Int) < 0
  all_goals
    go_enter Try.func58, Try.ntmps58
    go_wp2
    go_ret
    exact ⟨_, rfl, by omega, by omega, by (repeat' (first | (with_reducible exact Below.refl _ _) | (with_reducible refine bel_alloc ?_ ?_ _) | (with_reducible refine Below.setCell ?_ ?_ _) | (with_reducible refine below_drewN ?_ _) | (with_reducible refine Below.drew ?_) | (with_reducible exact Nat.le_refl _) | (with_reducible assumption) | omega | (simp only [World.size_alloc, World.size_setCell, World.size_drew]; omega) | (simp; omega) | (simp; done)))⟩

theorem toEntry_any (x y : Int) (w : World) :
    Calls Try.prog 81 #[.agg #[.int .i64 x, .int .i64 y]] w fun e w' => e = .returned (.agg #[.int .i64 x, .int .i64 y]) ∧ Below w.heap.size w w' := by
  go_enter Try.func81, Try.ntmps81
  go_wp2
  refine bodyPost_ret (v := .agg #[.int .i64 x, .int .i64 y]) (by simp [results, Try.results81, go_sem]) rfl ⟨rfl, ?_⟩
  (repeat' (first | (with_reducible exact Below.refl _ _) | (with_reducible refine bel_alloc ?_ ?_ _) | (with_reducible refine Below.setCell ?_ ?_ _) | (with_reducible refine below_drewN ?_ _) | (with_reducible refine Below.drew ?_) | (with_reducible exact Nat.le_refl _) | (with_reducible assumption) | omega | (simp only [World.size_alloc, World.size_setCell, World.size_drew]; omega) | (simp; omega) | (simp; done)))
theorem eqEntry_same (x y : Int) (w : World) :
    Calls Try.prog 82 #[.agg #[.int .i64 x, .int .i64 y], .agg #[.int .i64 x, .int .i64 y]] w fun e w' => e = .returned (.bool true) ∧ Below w.heap.size w w' := by
  go_enter Try.func82, Try.ntmps82
  go_wp2
  go_ret
  exact ⟨rfl, by (repeat' (first | (with_reducible exact Below.refl _ _) | (with_reducible refine bel_alloc ?_ ?_ _) | (with_reducible refine Below.setCell ?_ ?_ _) | (with_reducible refine below_drewN ?_ _) | (with_reducible refine Below.drew ?_) | (with_reducible exact Nat.le_refl _) | (with_reducible assumption) | omega | (simp only [World.size_alloc, World.size_setCell, World.size_drew]; omega) | (simp; omega) | (simp; done)))⟩
theorem infoEntry : (Try.prog.info? 79).map (fun i => (i.zero, i.size, i.bytes)) = some (some (.agg #[.int .i64 0, .int .i64 0]), 2, 8 * 2) := by kernel_rfl
abbrev OwEntry (w : World) (lo hi : Nat) (A : Option Addr) (c : Nat) (xs : List (Int × Int)) : Prop := Ow w lo hi 79 2 A xs.length c (pv xs)
def MadeEntry (xs : List (Int × Int)) (w : World) (e : Ending) (w' : World) : Prop :=
  ∃ A c, e = .returned (.slice A xs.length c) ∧ OwEntry w' w.heap.size w'.heap.size A c xs ∧ Below w.heap.size w w'
set_option maxHeartbeats 2000000 in
theorem toEntryS_any (A : Option Addr) (c : Nat) (xs : List (Int × Int)) (w : World) {B : Nat} (hr : Rd w B A (pv xs)) (hn : xs.length ≤ 1048576) :
    Calls Try.prog 61 #[.slice A xs.length c] w (MadeEntry xs w) := by
  obtain ⟨i0, hi, hz0, hz1, hz2⟩ := info_parts infoEntry
  go_enter Try.func61, Try.ntmps61
  go_wp2_with (with_reducible refine wpList_make_full _ rfl (.tmp 6) (.tmp 6) _ rfl w.heap.size 79 i0 (.agg #[.int .i64 0, .int .i64 0]) 2 Try.underlying43 hi hz0 hz1 .i64 .i64 _ _ xs.length rfl rfl rfl rfl (by rw [hz2]; omega) (by unfold maxLen; omega) (Nat.le_refl _) ?_; intro w1 hown hgrow)
  have hb1 : Below w.heap.size w w1 := (Below.refl _ _).grown hgrow (Nat.le_refl _) (by simp)
  clear hgrow
  go_loopw [4] (fun v wr => ∃ k : Nat, k ≤ xs.length ∧ v = .int .i64 k ∧ Below w.heap.size w wr ∧ ∃ cur : List Value, (∀ j, j < k * 2 → cur[j]? = (pv xs)[j]?) ∧ wr.ownsRow w.heap.size 79 2 (.slice (some ⟨w.heap.size, 0, none⟩) xs.length xs.length) xs.length cur)
    (fun v _ => xs.length - (intOf v).toNat)
  case atStart => exact ⟨0, Nat.zero_le _, rfl, hb1, _, fun j hj => absurd hj (by omega), hown⟩
  case round =>
    obtain ⟨k, hk, rfl, hbr, cur, hcur, hownr⟩ := hrel
    clear hb1 hown
    by_cases hlt : k < xs.length
    · obtain ⟨b, off, rfl, -, hc0, hc1⟩ := (hr.lt.below hbr).pair hlt
      have hp := pv_at xs hlt
      obtain ⟨x, hx⟩ : ∃ x, x = xs[k].1 := ⟨_, rfl⟩
      obtain ⟨y, hy⟩ : ∃ y, y = xs[k].2 := ⟨_, rfl⟩
      rw [← hx] at hc0 hp
      rw [← hy] at hc1 hp
      clear hx hy
      have HP := Lib.hid hp
      have HL := Lib.hid hownr.1
      have HC := Lib.hid hcur
      clear hp hcur
      go_wp2_with fail
      refine (toEntry_any _ _ _).mono ?_
      rintro e w2 ⟨rfl, hb2⟩
      have how := own_below' hownr hb2
      obtain ⟨u0, hcg0⟩ : ∃ u, w2.cell? ⟨w.heap.size, k * 2, none⟩ = some u := ⟨cur[k * 2]'(by have := HL.out; omega), by rw [how.cellAt (k * 2) (by omega)]; exact List.getElem?_eq_getElem _⟩
      obtain ⟨u1, hcg1⟩ : ∃ u, w2.cell? ⟨w.heap.size, k * 2 + 1, none⟩ = some u := ⟨cur[k * 2 + 1]'(by have := HL.out; omega), by rw [how.cellAt (k * 2 + 1) (by omega)]; exact List.getElem?_eq_getElem _⟩
      have hfg0 := how.frozenAt (k * 2)
      have hfg1 := how.frozenAt (k * 2 + 1)
      go_wp2
      have s0 := (how.stored (k * 2) (.int .i64 x)).1
      have s1 := (s0.stored (k * 2 + 1) (.int .i64 y)).1
      go_roundw
      case rel =>
        refine ⟨k + 1, by omega, by go_num, ((bel_step hb2 hbr (Nat.le_refl _)).setCell (Nat.le_refl _) _).setCell (Nat.le_refl _) _, ((cur.set (k * 2) (.int .i64 x)).set (k * 2 + 1) (.int .i64 y)), fun j hj => ?_, s1⟩
        have hl := HL.out
        simp only [List.getElem?_set, List.length_set]
        by_cases e1 : k * 2 + 1 = j
        · rw [if_pos e1, if_pos (by omega), ← e1, HP.out.2]
        · rw [if_neg e1]
          by_cases e0 : k * 2 = j
          · rw [if_pos e0, if_pos (by omega), ← e0, HP.out.1]
          · rw [if_neg e0]
            exact HC.out j (by omega)
      case measure => simp [intOf]; omega
    · have hkn : k = xs.length := by omega
      have hcu : cur = pv xs := by
        apply List.ext_getElem?
        intro j
        by_cases hj : j < k * 2
        · exact hcur j hj
        · rw [List.getElem?_eq_none (by have := hownr.1; omega), List.getElem?_eq_none (by rw [pv_length]; omega)]
      subst hkn
      have HU := Lib.hid hcu
      clear hcu hcur
      go_wp2
      go_ret
      exact ⟨_, _, rfl, Ow.mk' (by have h2 := hownr; rw [HU.out] at h2; exact h2), hbr⟩
set_option maxHeartbeats 2000000 in
theorem eqEntryS_same (A B : Option Addr) (c d : Nat) (xs : List (Int × Int)) (w : World) {B1 B2 : Nat} (hx : Rd w B1 A (pv xs)) (hy : Rd w B2 B (pv xs)) (hn : xs.length ≤ 1048576) :
    Calls Try.prog 64 #[.slice A xs.length c, .slice B xs.length d] w fun e w' => e = .returned (.bool true) ∧ Below w.heap.size w w' := by
  have hne : ((xs.length : Int) != (xs.length : Int)) = false := by simp
  go_enter Try.func64, Try.ntmps64
  go_wp2
  go_loopw [5] (fun v wr => ∃ k : Nat, k ≤ xs.length ∧ v = .int .i64 k ∧ Below w.heap.size w wr) (fun v _ => xs.length - (intOf v).toNat)
  case atStart => exact ⟨0, Nat.zero_le _, rfl, Below.refl _ _⟩
  case round =>
    obtain ⟨k, hk, rfl, hbr⟩ := hrel
    by_cases hlt : k < xs.length
    · obtain ⟨b, off, rfl, -, hc0, hc1⟩ := (hx.lt.below hbr).pair hlt
      obtain ⟨b2, off2, rfl, -, hd0, hd1⟩ := (hy.lt.below hbr).pair hlt
      obtain ⟨x, hx⟩ : ∃ x, x = xs[k].1 := ⟨_, rfl⟩
      obtain ⟨y, hy⟩ : ∃ y, y = xs[k].2 := ⟨_, rfl⟩
      rw [← hx] at hc0 hd0
      rw [← hy] at hc1 hd1
      clear hx hy
      have i0 : (0 : Int) ≤ (k : Int) := by omega
      have i1 : (k : Int) < (xs.length : Int) := by omega
      have k0 := cell_regrown hc0
      have j0 := cell_regrown hd0
      have k1 := cell_regrown hc1
      have j1 := cell_regrown hd1
      have cE : ∀ d os, Calls Try.prog 82 #[.agg #[.int .i64 x, .int .i64 y], .agg #[.int .i64 x, .int .i64 y]] (Go.Sort.grow (redrawn wr d) os) fun e w'' => e = .returned (.bool true) ∧ ∃ p : Regrown, w'' = Go.Sort.grow (redrawn wr p.d) p.os := fun d os => Calls.regrown_of (eqEntry_same x y _)
      go_wp2
      refine wp_region_quiet_below (by kernel_rfl) (by kernel_rfl) ?_
      repeat (first | go_big_quiet_step (first | (with_reducible exact cE _ _)) | quiet_step (first | (with_reducible exact cE _ _)))
      refine wpQuiet_nil ?_
      intro _ hw_q
      obtain ⟨⟨dq, osq⟩, hw_q'⟩ := hw_q
      subst hw_q'
      have hbq := below_regrown wr dq osq
      generalize Go.Sort.grow (redrawn wr dq) osq = wq at *
      go_wp2
      go_roundw
      case rel => exact ⟨k + 1, by omega, by go_num, bel_step hbq hbr (Nat.le_refl _)⟩
      case measure => simp [intOf]; omega
    · go_wp2
      go_ret
      exact ⟨rfl, hbr⟩
end Go.Proofs.Ytljholnnhogdkaa
