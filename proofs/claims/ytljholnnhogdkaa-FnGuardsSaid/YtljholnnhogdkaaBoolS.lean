/- The laws' functions on []bool. -/
import Derived.Test.YtljholnnhogdkaaSet
import Derived.Test.YtljholnnhogdkaaSize
import Derived.Test.YtljholnnhogdkaaInfo
namespace Go.Proofs.Ytljholnnhogdkaa
open Go.ChangeShapes Go.WideShapes Go.ChangeAt Go.RowKit
set_option linter.unusedVariables false

/-- Bools, as cells. -/
abbrev bl (xs : List Bool) : List Value := xs.map Value.bool
theorem bl_at {xs : List Bool} {k : Nat} (h : k < xs.length) : (bl xs)[k]? = some (.bool xs[k]) := by simp [bl, h]
theorem Rd.bool {w : World} {B : Nat} {A : Option Addr} {xs : List Bool} (h : Rd w B A (bl xs)) {k : Nat} (hk : k < xs.length) :
    ∃ b off, A = some ⟨b, off, none⟩ ∧ b < B ∧ w.cell? ⟨b, off + k, none⟩ = some (.bool xs[k]) := h.at_ (bl_at hk)
theorem infoBool : (Try.prog.info? 4).map (fun i => (i.zero, i.size, i.bytes)) = some (some (.bool false), 1, 1) := by kernel_rfl
theorem szBoolS_sized (A : Option Addr) (n c : Nat) (left : Int) (w : World) (h0 : 0 ≤ left) (h1 : left ≤ 1048576) (hn : n ≤ maxLen) :
    Calls Try.prog 57 #[.slice A n c, .int .i64 left] w (Sized left ((n : Int) ≤ left) w) := by
  unfold maxLen at hn
  by_cases h : left - (n : Int) < 0
  all_goals
    go_enter Try.func57, Try.ntmps57
    go_wp2
    go_ret
    exact ⟨_, rfl, by omega, by omega, by (repeat' (first | (with_reducible exact Below.refl _ _) | (with_reducible refine bel_alloc ?_ ?_ _) | (with_reducible refine Below.setCell ?_ ?_ _) | (with_reducible refine below_drewN ?_ _) | (with_reducible refine Below.drew ?_) | (with_reducible exact Nat.le_refl _) | (with_reducible assumption) | omega | (simp only [World.size_alloc, World.size_setCell, World.size_drew]; omega) | (simp; omega) | (simp; done)))⟩
def MadeBoolSW (xs : List Bool) (w : World) (e : Ending) (w' : World) : Prop :=
  ∃ A c S, e = .returned (.slice A xs.length c) ∧ (xs.length ≤ c ∧ c ≤ maxLen) ∧ Wr w' S A (bl xs) ∧ New S w w' ∧ Below w.heap.size w w'
set_option maxHeartbeats 1000000 in
theorem toBoolS_w (A : Option Addr) (c : Nat) (xs : List Bool) (w : World) {B : Nat} (hr : Rd w B A (bl xs)) (hn : xs.length ≤ 1048576) :
    Calls Try.prog 60 #[.slice A xs.length c] w (MadeBoolSW xs w) := by
  obtain ⟨i0, hi, hz0, hz1, hz2⟩ := info_parts infoBool
  go_enter Try.func60, Try.ntmps60
  go_wp2_with (with_reducible refine wpList_make_full _ rfl (.tmp 6) (.tmp 6) _ rfl w.heap.size 4 i0 (.bool false) 1 Try.underlying32 hi hz0 hz1 .i64 .i64 _ _ xs.length rfl rfl rfl rfl (by rw [hz2]; omega) (by unfold maxLen; omega) (Nat.le_refl _) ?_; intro w1 hown hgrow)
  have hb1 : Below w.heap.size w w1 := (Below.refl _ _).grown hgrow (Nat.le_refl _) (by simp)
  clear hgrow
  go_loopw [4] (fun v wr => ∃ k : Nat, k ≤ xs.length ∧ v = .int .i64 k ∧ Below w.heap.size w wr ∧ ∃ cur : List Value, (∀ j, j < k → cur[j]? = (bl xs)[j]?) ∧ wr.ownsRow w.heap.size 4 1 (.slice (some ⟨w.heap.size, 0, none⟩) xs.length xs.length) xs.length cur)
    (fun v _ => xs.length - (intOf v).toNat)
  case atStart => exact ⟨0, Nat.zero_le _, rfl, hb1, _, fun j hj => absurd hj (by omega), hown⟩
  case round =>
    obtain ⟨k, hk, rfl, hbr, cur, hcur, hownr⟩ := hrel
    clear hb1 hown
    by_cases hlt : k < xs.length
    · obtain ⟨b, off, rfl, -, hcell⟩ := (hr.lt.below hbr).bool hlt
      have hlen := hownr.1
      obtain ⟨u0, hcg⟩ : ∃ u, wr.cell? ⟨w.heap.size, k, none⟩ = some u := ⟨cur[k]'(by omega), by rw [hownr.cellAt k (by omega)]; exact List.getElem?_eq_getElem _⟩
      have hfg := hownr.frozenAt k
      obtain ⟨x, hx⟩ : ∃ x, x = xs[k] := ⟨_, rfl⟩
      rw [← hx] at hcell
      have HX := Lib.hid hx
      have HL := Lib.hid hlen
      have HC := Lib.hid hcur
      clear hx hlen hcur
      go_wp2
      have hst := hownr.stored k (.bool x)
      go_roundw
      case rel =>
        refine ⟨k + 1, by omega, by go_num, hbr.setCell (Nat.le_refl _) _, cur.set k (.bool x), fun j hj => ?_, hst.1⟩
        rw [List.getElem?_set]
        split
        · rename_i e
          rw [if_pos (by have := HL.out; omega), HX.out, ← e, bl_at hlt]
        · exact HC.out j (by omega)
      case measure => simp [intOf]; omega
    · have hkn : k = xs.length := by omega
      have hcu : cur = bl xs := by
        apply List.ext_getElem?
        intro j
        by_cases hj : j < k
        · exact hcur j hj
        · rw [List.getElem?_eq_none (by have := hownr.1; omega), List.getElem?_eq_none (by simp; omega)]
      subst hkn
      have HU := Lib.hid hcu
      clear hcu hcur
      go_wp2
      go_ret
      have ho := Ow.mk' (by have h2 := hownr; rw [HU.out] at h2; exact h2)
      obtain ⟨S, hW, hN⟩ := ho.wr.new w.heap.size (fun b h => h.1)
      exact ⟨_, _, S, rfl, ho.cap, hW, hN, hbr⟩
set_option maxHeartbeats 1000000 in
theorem eqBoolS_same (A B : Option Addr) (c d : Nat) (xs : List Bool) (w : World) {B1 B2 : Nat} (hx : Rd w B1 A (bl xs)) (hy : Rd w B2 B (bl xs)) (hn : xs.length ≤ 1048576) :
    Calls Try.prog 63 #[.slice A xs.length c, .slice B xs.length d] w fun e w' => e = .returned (.bool true) ∧ Below w.heap.size w w' := by
  have hne : ((xs.length : Int) != (xs.length : Int)) = false := by simp
  go_enter Try.func63, Try.ntmps63
  go_wp2
  go_loopw [5] (fun v wr => ∃ k : Nat, k ≤ xs.length ∧ v = .int .i64 k ∧ ∃ m, wr = w.drewN m) (fun v _ => xs.length - (intOf v).toNat)
  case atStart => exact ⟨0, Nat.zero_le _, rfl, 0, rfl⟩
  case round =>
    obtain ⟨k, hk, rfl, m0, rfl⟩ := hrel
    by_cases hlt : k < xs.length
    · obtain ⟨b, off, rfl, -, hcx⟩ := hx.bool hlt
      obtain ⟨b2, off2, rfl, -, hcy⟩ := hy.bool hlt
      generalize xs[k] = x at *
      have i0 : (0 : Int) ≤ (k : Int) := by omega
      have i1 : (k : Int) < (xs.length : Int) := by omega
      have hb : (x != x) = false := by simp
      go_wp2
      go_quiet (fail)
      go_wp2
      go_roundw
      case rel => exact ⟨k + 1, by omega, by go_num, _, rfl⟩
      case measure => simp [intOf]; omega
    · go_wp2
      go_ret
      exact ⟨rfl, below_drewN (Below.refl _ _) _⟩
end Go.Proofs.Ytljholnnhogdkaa
