/- The laws' marks on []Post. -/
import Derived.Test.YtggigndkamkclaaPostS
import Derived.Test.YtggigndkamkclaaMarks
namespace Go.Proofs.Ytggigndkamkclaa
open Go.ChangeShapes Go.WideShapes Go.ChangeAt Go.RowKit
set_option linter.unusedVariables false

set_option maxHeartbeats 2000000 in
theorem markPostS_any (A : Option Addr) (c : Nat) (xs : List (Int × Int)) (k : Int) (w : World) {S : Nat → Prop} (ho : Wr w S A (pv xs)) (hn : xs.length ≤ 1048576) (hk0 : 0 ≤ k) (hk1 : k ≤ 4611686018427387904) :
    Calls Try.prog 60 #[.slice A xs.length c, .int .i64 k] w fun e w' => e = .returned (.int .i64 (k + 2 * xs.length)) ∧ Wr w' S A (pv (m2 k xs.length)) ∧ OutS S w w' := by
  obtain ⟨n, hne⟩ : ∃ n, n = xs.length := ⟨_, rfl⟩
  have hl0 := pv_length xs
  rw [← hne]
  rw [← hne] at hn hl0
  generalize pv xs = cur0 at *
  have HN := Lib.hid hl0
  clear hne hl0
  go_enter Try.func60, Try.ntmps60
  go_wp2
  go_loopw [1, 5] (fun u v wr => ∃ j : Nat, j ≤ n ∧ v = .int .i64 j ∧ u = .int .i64 (k + (2 * (j : Nat) : Int)) ∧ OutS S w wr ∧ ∃ cur : List Value, cur.length = n * 2 ∧ (∀ t, t < j * 2 → cur[t]? = (pv (m2 k n))[t]?) ∧ Wr wr S A cur)
    (fun _ v _ => n - (intOf v).toNat)
  case atStart => exact ⟨0, Nat.zero_le _, rfl, by simp, OutS.refl, _, HN.out, fun j hj => absurd hj (by omega), ho⟩
  case round =>
    obtain ⟨j, hj, rfl, rfl, hg, cur, hcl, hcur, hw⟩ := hrel
    have HC := Lib.hid hcur
    have HL := Lib.hid hcl
    clear hcur hcl ho
    by_cases hlt : j < n
    · obtain ⟨b, off, hA, hS, c0, f0⟩ := hw.at_ (k := j * 2) (List.getElem?_eq_getElem (by have := HL.out; omega))
      obtain ⟨b', off', hA', -, c1, f1⟩ := hw.at_ (k := j * 2 + 1) (List.getElem?_eq_getElem (by have := HL.out; omega))
      obtain ⟨rfl, rfl⟩ : b = b' ∧ off = off' := by rw [hA] at hA'; injection hA' with e; injection e with e1 e2; exact ⟨e1, e2⟩
      clear hA'
      rw [← Nat.add_assoc] at c1 f1
      subst hA
      have HM := Lib.hid (pv_at (m2 k n) (k := j) (by simp; omega))
      go_wp2
      have s0 := Wr.set (k := j * 2) hw rfl (.int .i64 (k + (2 * (j : Nat) : Int)))
      have s1 := Wr.set (k := j * 2 + 1) s0 rfl (.int .i64 (k + (2 * (j : Nat) : Int) + 1))
      simp only [← Nat.add_assoc] at s0 s1
      go_roundw
      case rel =>
        refine ⟨j + 1, by omega, by go_num, by go_num, ((hg).trans (OutS.set _ _ hS)).trans (OutS.set _ _ hS), ((cur.set (j * 2) (.int .i64 (k + (2 * (j : Nat) : Int)))).set (j * 2 + 1) (.int .i64 (k + (2 * (j : Nat) : Int) + 1))), by simp; exact HL.out, fun t ht => ?_, s1⟩
        have hl := HL.out
        simp only [List.getElem?_set, List.length_set]
        by_cases e1 : j * 2 + 1 = t
        · rw [if_pos e1, if_pos (by omega), ← e1, HM.out.2]
          simp [m2]
        · rw [if_neg e1]
          by_cases e0 : j * 2 = t
          · rw [if_pos e0, if_pos (by omega), ← e0, HM.out.1]
            simp [m2]
          · rw [if_neg e0]
            exact HC.out t (by omega)
      case measure => simp [intOf]; omega
    · obtain rfl : j = n := by omega
      have hcu : cur = pv (m2 k j) := by
        apply List.ext_getElem?
        intro t
        by_cases ht : t < j * 2
        · exact HC.out t ht
        · rw [List.getElem?_eq_none (by have := HL.out; omega), List.getElem?_eq_none (by rw [pv_length]; simp; omega)]
      have HU := Lib.hid hcu
      clear hcu
      go_wp2
      go_ret
      exact ⟨rfl, by have h2 := hw; rw [HU.out] at h2; exact h2, hg⟩

set_option maxHeartbeats 2000000 in
theorem heldPostS_any (A : Option Addr) (c n : Nat) (k : Int) (w : World) {B : Nat} (hr : Rd w B A (pv (m2 k n))) (hn : n ≤ 1048576) (hk0 : 0 ≤ k) (hk1 : k ≤ 4611686018427387904) :
    Calls Try.prog 61 #[.slice A n c, .int .i64 k] w fun e w' => e = .returned (.int .i64 (k + 2 * n)) ∧ w' = w := by
  go_enter Try.func61, Try.ntmps61
  go_wp2
  go_loop [1, 5] (fun u v => ∃ j : Nat, j ≤ n ∧ v = .int .i64 j ∧ u = .int .i64 (k + (2 * (j : Nat) : Int)))
    (fun _ v => n - (intOf v).toNat)
  case atStart => exact ⟨0, Nat.zero_le _, rfl, by simp⟩
  case round =>
    obtain ⟨j, hj, rfl, rfl⟩ := hrel
    by_cases hlt : j < n
    · obtain ⟨b, off, rfl, -, hc0, hc1⟩ := hr.pair (k := j) (by simpa using hlt)
      simp only [m2, List.getElem_map, List.getElem_range] at hc0 hc1
      go_wp2
      go_round
      case rel => exact ⟨j + 1, by omega, by go_num, by go_num⟩
      case measure => simp [intOf]; omega
    · obtain rfl : j = n := by omega
      go_wp2
      go_ret
      exact ⟨rfl, rfl⟩
theorem heldPostS_b (A : Option Addr) (c n : Nat) (k : Int) (w : World) {B : Nat} (hr : Rd w B A (pv (m2 k n))) (hn : n ≤ 1048576) (hk0 : 0 ≤ k) (hk1 : k ≤ 4611686018427387904) :
    Calls Try.prog 61 #[.slice A n c, .int .i64 k] w fun e w' => e = .returned (.int .i64 (k + 2 * n)) ∧ Below w.heap.size w w' :=
  (heldPostS_any A c n k w hr hn hk0 hk1).mono fun _ _ ⟨h1, h2⟩ => ⟨h1, by rw [h2]; exact Below.refl _ _⟩
def MadePostSW (xs : List (Int × Int)) (w : World) (e : Ending) (w' : World) : Prop :=
  ∃ A c S, e = .returned (.slice A xs.length c) ∧ (xs.length ≤ c ∧ c ≤ maxLen) ∧ Wr w' S A (pv xs) ∧ New S w w' ∧ Below w.heap.size w w'
theorem toPostS_w (A : Option Addr) (c : Nat) (xs : List (Int × Int)) (w : World) {B : Nat} (hr : Rd w B A (pv xs)) (hn : xs.length ≤ 1048576) :
    Calls Try.prog 64 #[.slice A xs.length c] w (MadePostSW xs w) :=
  (toPostS_any A c xs w hr hn).mono fun e w' ⟨A', c', he, ho, hb⟩ => by
    obtain ⟨S, hW, hN⟩ := ho.wr.new w.heap.size (fun b h => h.1)
    exact ⟨A', c', S, he, ho.cap, hW, hN, hb⟩
end Go.Proofs.Ytggigndkamkclaa
