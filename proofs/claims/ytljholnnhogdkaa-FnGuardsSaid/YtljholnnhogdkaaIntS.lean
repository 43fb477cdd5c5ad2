/- Contracts of the laws' functions on []int: szIntS, toIntS, eqIntS, markIntS, heldIntS; copyInts. -/
import Derived.Test.YtljholnnhogdkaaMem
import Derived.Test.YtljholnnhogdkaaInfo
namespace Go.Proofs.Ytljholnnhogdkaa
open Go.ChangeShapes Go.WideShapes Go.ChangeAt Go.RowKit
set_option linter.unusedVariables false


/-- A slice of ints of the call's own. -/
abbrev OwI (w : World) (lo hi : Nat) (A : Option Addr) (c : Nat) (xs : List Int) : Prop := Ow w lo hi 3 1 A xs.length c (iv xs)

def szN (left n : Int) : Int := if left - n < 0 then -1 else left - n
theorem szIntS_any (A : Option Addr) (n c : Nat) (left : Int) (w : World) (h0 : 0 ≤ left) (h1 : left ≤ 1048576) (hn : n ≤ maxLen) :
    Calls Try.prog 79 #[.slice A n c, .int .i64 left] w fun e w' => e = .returned (.int .i64 (szN left n)) ∧ w' = w := by
  unfold maxLen at hn
  by_cases h : left - (n : Int) < 0
  all_goals
    first
    | have HR := Lib.hid (show szN left n = -1 from if_pos h)
    | have HR := Lib.hid (show szN left n = left - n from if_neg h)
    go_enter Try.func79, Try.ntmps79
    go_wp2
    go_ret
    exact ⟨by rw [HR.out]; rfl, rfl⟩

/-- The post of a function that makes a slice of ints. -/
def MadeI (xs : List Int) (w : World) (e : Ending) (w' : World) : Prop :=
  ∃ A c, e = .returned (.slice A xs.length c) ∧ OwI w' w.heap.size w'.heap.size A c xs ∧ Below w.heap.size w w'

set_option maxHeartbeats 1000000 in
theorem toIntS_any (A : Option Addr) (c : Nat) (xs : List Int) (w : World) {B : Nat} (hr : Rd w B A (iv xs)) (hn : xs.length ≤ 1048576) :
    Calls Try.prog 80 #[.slice A xs.length c] w (MadeI xs w) := by
  obtain ⟨i0, hi, hz0, hz1, hz2⟩ := info_parts infoInt
  go_enter Try.func80, Try.ntmps80
  go_wp2_with (with_reducible refine wpList_make_full _ rfl (.tmp 6) (.tmp 6) _ rfl w.heap.size 3 i0 (.int .i64 0) 1 Try.underlying22 hi hz0 hz1 .i64 .i64 _ _ xs.length rfl rfl rfl rfl (by rw [hz2]; omega) (by unfold maxLen; omega) (Nat.le_refl _) ?_; intro w1 hown hgrow)
  have hb1 : Below w.heap.size w w1 := (Below.refl _ _).grown hgrow (Nat.le_refl _) (by simp)
  clear hgrow
  go_loopw [4] (fun v wr => ∃ k : Nat, k ≤ xs.length ∧ v = .int .i64 k ∧ Below w.heap.size w wr ∧ ∃ cur : List Value, (∀ j, j < k → cur[j]? = (iv xs)[j]?) ∧ wr.ownsRow w.heap.size 3 1 (.slice (some ⟨w.heap.size, 0, none⟩) xs.length xs.length) xs.length cur)
    (fun v _ => xs.length - (intOf v).toNat)
  case atStart => exact ⟨0, Nat.zero_le _, rfl, hb1, _, fun j hj => absurd hj (by omega), hown⟩
  case round =>
    obtain ⟨k, hk, rfl, hbr, cur, hcur, hownr⟩ := hrel
    clear hb1 hown
    by_cases hlt : k < xs.length
    · obtain ⟨b, off, rfl, -, hcell⟩ := (hr.lt.below hbr).int hlt
      have hlen := hownr.1
      obtain ⟨u0, hcg⟩ : ∃ u, wr.cell? ⟨w.heap.size, k, none⟩ = some u := ⟨cur[k]'(by omega), by rw [hownr.cellAt k (by omega)]; exact List.getElem?_eq_getElem _⟩
      have hfg := hownr.frozenAt k
      obtain ⟨x, hx⟩ : ∃ x, x = xs[k] := ⟨_, rfl⟩
      rw [← hx] at hcell
      have HX := Lib.hid hx
      have HL := Lib.hid hlen
      have HC := Lib.hid hcur
      clear hx hlen hcur
      go_wp2
      have hst := hownr.stored k (.int .i64 x)
      go_roundw
      case rel =>
        refine ⟨k + 1, by omega, by go_num, hbr.setCell (Nat.le_refl _) _, cur.set k (.int .i64 x), fun j hj => ?_, hst.1⟩
        rw [List.getElem?_set]
        split
        · rename_i e
          rw [if_pos (by have := HL.out; omega), HX.out, ← e, iv_at hlt]
        · exact HC.out j (by omega)
      case measure => simp [intOf]; omega
    · have hkn : k = xs.length := by omega
      have hcu : cur = iv xs := by
        apply List.ext_getElem?
        intro j
        by_cases hj : j < k
        · exact hcur j hj
        · rw [List.getElem?_eq_none (by have := hownr.1; omega), List.getElem?_eq_none (by simp; omega)]
      subst hkn
      have HU := Lib.hid hcu
      clear hcu hcur
      go_wp2
      go_ret
      exact ⟨_, _, rfl, Ow.mk' (by have h2 := hownr; rw [HU.out] at h2; exact h2), hbr⟩

set_option maxHeartbeats 1000000 in
theorem eqIntS_any (A B : Option Addr) (c d : Nat) (xs ys : List Int) (w : World) {B1 B2 : Nat} (hx : Rd w B1 A (iv xs)) (hy : Rd w B2 B (iv ys)) (hn : xs.length ≤ 9223372036854775807) (hm : ys.length ≤ 9223372036854775807) :
    Calls Try.prog 10 #[.slice A xs.length c, .slice B ys.length d] w fun e w' => e = .returned (.bool (decide (xs = ys))) ∧ ∃ m, w' = w.drewN m := by
  by_cases hl : xs.length = ys.length
  · have hne : ((xs.length : Int) != (ys.length : Int)) = false := by simp [hl]
    have HL := Lib.hid hl
    clear hl
    go_enter Try.func10, Try.ntmps10
    go_wp2
    go_loopw [5] (fun v wr => ∃ k : Nat, k ≤ xs.length ∧ v = .int .i64 k ∧ (∀ j, j < k → xs[j]? = ys[j]?) ∧ ∃ m, wr = w.drewN m)
      (fun v _ => xs.length - (intOf v).toNat)
    case atStart => exact ⟨0, Nat.zero_le _, rfl, fun j hj => absurd hj (by omega), 0, rfl⟩
    case round =>
      obtain ⟨k, hk, rfl, heq, m0, rfl⟩ := hrel
      have HQ := Lib.hid heq
      clear heq
      by_cases hlt : k < xs.length
      · have hlt2 : k < ys.length := by have := HL.out; omega
        obtain ⟨b, off, rfl, -, hcx⟩ := hx.int hlt
        obtain ⟨b2, off2, rfl, -, hcy⟩ := hy.int hlt2
        obtain ⟨x, hxe⟩ : ∃ x, x = xs[k] := ⟨_, rfl⟩
        obtain ⟨y, hye⟩ : ∃ y, y = ys[k] := ⟨_, rfl⟩
        rw [← hxe] at hcx
        rw [← hye] at hcy
        have HX := Lib.hid hxe
        have HY := Lib.hid hye
        clear hxe hye
        have i0 : (0 : Int) ≤ (k : Int) := by omega
        have i1 : (k : Int) < (xs.length : Int) := by omega
        have i2 : (k : Int) < (ys.length : Int) := by omega
        by_cases hxy : x = y
        · have hb : (x != y) = false := by simp [hxy]
          have HE := Lib.hid hxy
          clear hxy
          go_wp2
          go_quiet (fail)
          go_wp2
          go_roundw
          case rel =>
            refine ⟨k + 1, by omega, by go_num, fun j hj => ?_, _, rfl⟩
            by_cases hjk : j = k
            · subst hjk
              rw [List.getElem?_eq_getElem hlt, List.getElem?_eq_getElem hlt2, ← HX.out, ← HY.out, HE.out]
            · exact HQ.out j (by omega)
          case measure => simp [intOf]; omega
        · have hb : (x != y) = true := by simp [hxy]
          have HR := Lib.hid (show decide (xs = ys) = false by
            simp
            rintro rfl
            exact hxy (by rw [HX.out, HY.out]))
          clear hxy
          go_wp2
          go_quiet (fail)
          go_wp2
          go_ret
          exact ⟨by rw [HR.out]; rfl, m0 + nq, by rw [World.drewN_drewN]⟩
      · have HR := Lib.hid (show decide (xs = ys) = true by
          simp
          apply List.ext_getElem?
          intro j
          by_cases hj : j < k
          · exact HQ.out j hj
          · have := HL.out
            rw [List.getElem?_eq_none (by omega), List.getElem?_eq_none (by omega)])
        go_wp2
        go_ret
        exact ⟨by rw [HR.out]; rfl, _, rfl⟩
  · have HR := Lib.hid (show decide (xs = ys) = false by simp; rintro rfl; exact hl rfl)
    have hne : ((xs.length : Int) != (ys.length : Int)) = true := by simp; omega
    clear hl
    go_enter Try.func10, Try.ntmps10
    go_wp2
    go_ret
    exact ⟨by rw [HR.out]; rfl, 0, rfl⟩

/-- The numbers that a mark writes. -/
def marks (k : Int) (n : Nat) : List Int := (List.range n).map fun t => k + (t : Nat)
@[simp] theorem marks_length (k : Int) (n : Nat) : (marks k n).length = n := by simp [marks]
theorem marks_at {k : Int} {n t : Nat} (h : t < n) : (marks k n)[t]? = some (k + t) := by simp [marks, h]

set_option maxHeartbeats 1000000 in
theorem markIntS_any (A : Option Addr) (c : Nat) (xs : List Int) (k : Int) (w : World) {lo hi : Nat} (ho : OwI w lo hi A c xs) (hn : xs.length ≤ 9223372036854775807 / 4) (hk0 : 0 ≤ k) (hk1 : k ≤ 4611686018427387904) :
    Calls Try.prog 11 #[.slice A xs.length c, .int .i64 k] w fun e w' => e = .returned (.int .i64 (k + xs.length)) ∧ Ow w' lo hi 3 1 A xs.length c (iv (marks k xs.length)) ∧ Out lo hi w w' := by
  obtain ⟨n, hne⟩ : ∃ n, n = xs.length := ⟨_, rfl⟩
  have hlohi := ho.2
  have ho := ho.1
  rw [← hne]
  rw [← hne] at ho hn
  have HN := Lib.hid hne
  clear hne
  go_enter Try.func11, Try.ntmps11
  go_wp2
  go_loopw [1, 5] (fun u v wr => ∃ j : Nat, j ≤ n ∧ v = .int .i64 j ∧ u = .int .i64 (k + j) ∧ Out lo hi w wr ∧ ∃ cur : List Value, (∀ t, t < j → cur[t]? = some (.int .i64 (k + (t : Nat)))) ∧ wr.ownsRow lo 3 1 (.slice A n c) n cur)
    (fun _ v _ => n - (intOf v).toNat)
  case atStart => exact ⟨0, Nat.zero_le _, rfl, by simp, Out.refl, _, fun j hj => absurd hj (by omega), ho⟩
  case round =>
    obtain ⟨j, hj, rfl, rfl, hg, cur, hcur, hownr⟩ := hrel
    have HC := Lib.hid hcur
    clear hcur ho
    by_cases hlt : j < n
    · obtain ⟨g, rfl, hbg, hgh⟩ := Ow.some_ (hi := hi) ⟨hownr, hlohi⟩ (by omega)
      obtain ⟨u0, hcg⟩ : ∃ u, wr.cell? ⟨g, j, none⟩ = some u := ⟨cur[j]'(by have := hownr.1; omega), by rw [hownr.cellAt j (by omega)]; exact List.getElem?_eq_getElem _⟩
      have hfg := hownr.frozenAt j
      have HL := Lib.hid hownr.1
      go_wp2
      have hst := hownr.stored j (.int .i64 (k + j))
      go_roundw
      case rel =>
        refine ⟨j + 1, by omega, by go_num, by go_num, hg.trans (Out.of_grown hst.2 (by rintro g' ⟨⟩; exact ⟨hbg, hgh⟩)), cur.set j (.int .i64 (k + j)), fun t ht => ?_, hst.1⟩
        rw [List.getElem?_set]
        split
        · rename_i e
          rw [if_pos (by have := HL.out; omega), e]
        · exact HC.out t (by omega)
      case measure => simp [intOf]; omega
    · obtain rfl : j = n := by omega
      have hcu : cur = iv (marks k j) := by
        apply List.ext_getElem?
        intro t
        by_cases ht : t < j
        · rw [HC.out t ht]
          simp [marks, ht]
        · rw [List.getElem?_eq_none (by have := hownr.1; omega), List.getElem?_eq_none (by simp; omega)]
      have HU := Lib.hid hcu
      clear hcu
      go_wp2
      go_ret
      exact ⟨rfl, ⟨by have h2 := hownr; rw [HU.out] at h2; exact h2, hlohi⟩, hg⟩

set_option maxHeartbeats 1000000 in
theorem heldIntS_any (A : Option Addr) (c n : Nat) (k : Int) (w : World) {B : Nat} (hr : Rd w B A (iv (marks k n))) (hn : n ≤ 9223372036854775807 / 4) (hk0 : 0 ≤ k) (hk1 : k ≤ 4611686018427387904) :
    Calls Try.prog 12 #[.slice A n c, .int .i64 k] w fun e w' => e = .returned (.int .i64 (k + n)) ∧ w' = w := by
  go_enter Try.func12, Try.ntmps12
  go_wp2
  go_loop [1, 5] (fun u v => ∃ j : Nat, j ≤ n ∧ v = .int .i64 j ∧ u = .int .i64 (k + j))
    (fun _ v => n - (intOf v).toNat)
  case atStart => exact ⟨0, Nat.zero_le _, rfl, by simp⟩
  case round =>
    obtain ⟨j, hj, rfl, rfl⟩ := hrel
    by_cases hlt : j < n
    · obtain ⟨b, off, rfl, -, hc⟩ := hr.at_ (k := j) (v := .int .i64 (k + j)) (by simp [marks, hlt])
      go_wp2
      go_round
      case rel => exact ⟨j + 1, by omega, by go_num, by go_num⟩
      case measure => simp [intOf]; omega
    · obtain rfl : j = n := by omega
      go_wp2
      go_ret
      exact ⟨rfl, rfl⟩

theorem copyInts_any (A : Option Addr) (c : Nat) (xs : List Int) (w : World) {B : Nat} (hr : Rd w B A (iv xs)) (hn : xs.length ≤ 1048576) :
    Calls Try.prog 84 #[.slice A xs.length c] w (MadeI xs w) := by
  obtain ⟨i0, hi, hz0, hz1, hz2⟩ := info_parts infoInt
  go_enter Try.func84, Try.ntmps84
  go_wp2_with (at_builtin; refine wpList_append_rd _ rfl (.tmp 3) (.tmp 4) _ rfl w.heap.size 3 i0 (.int .i64 0) 1 8 Try.underlying22 hi hz0 hz1 hz2 rfl (by omega) (.slice (some ⟨w.heap.size, 0, none⟩) 0 0) 0 [] rfl (own_empty rfl (Nat.le_refl _)) A xs.length c (iv xs) rfl (by simp) (hr.alloc _) (iv_one _) (by unfold maxLen; omega) (by omega) (by simp) ?_; intro v' w1 hown hgrow hat)
  go_ret
  obtain ⟨A', c', rfl⟩ := own_form hown
  rw [Nat.zero_add, List.nil_append] at hown
  exact ⟨A', c', by rw [Nat.zero_add]; rfl, Ow.mk' hown, bel_grown hgrow (by (repeat' (first | (with_reducible exact Below.refl _ _) | (with_reducible refine bel_alloc ?_ ?_ _) | (with_reducible refine Below.setCell ?_ ?_ _) | (with_reducible refine below_drewN ?_ _) | (with_reducible refine Below.drew ?_) | (with_reducible exact Nat.le_refl _) | (with_reducible assumption) | omega | (simp only [World.size_alloc, World.size_setCell, World.size_drew]; omega) | (simp; omega) | (simp; done)))) (Nat.le_refl _) (by intro g hg; simp [Value.ownBlock] at hg; omega)⟩
end Go.Proofs.Ytljholnnhogdkaa
